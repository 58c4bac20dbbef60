import Derived.Test.YtjlhfmedaandeaaBase
/- A range over a function where the assignment of the round's variables makes boxes: as XTells. No program is named here. -/
namespace Go.Proofs.Ytjlhfmedaandeaa
open Go.RowKit
set_option linter.unusedVariables false

theorem rangeFunc_tellsA {F : Fence} {n : Nat} {P : Program} {α : Type} {g : Operand} {ps : Array Tmp} {assign body : Code} {Q : Exit → Act → World → Prop} {a : Act} {w : World}
    (hro : F.round = none) (h1 : 1 ≤ n) {gf : Nat} {lb : Array Value} (hg : a.eval g = .func (.func gf) #[] lb) (hFg : F.fn gf) (eg : ∀ args w, (callFunc gf args).run P w = .ok (.enter gf args) w)
    {encs : α → Array Value} {G : α → World → Prop} {Kp : World → World → Prop} {S : List α → Prop} {N : Nat} {w0 : World} (hseq : Tells F (n - 1) P gf lb encs G Kp S N w0)
    (hKt : ∀ {A B C : World}, Kp A B → Kp B C → Kp A C) (hKb : ∀ (W : World) (l : Nat) (o o' : Obj), w.heap.size ≤ l → W.heap[l]? = some o → o.isCells = false → o.isWalk = false → Kp W (W.putObj l o'))
    (hb0 : Below w0.heap.size w0 w) (hps : ∀ x, (encs x).size = ps.size)
    (hG : ∀ (x : α) (W : World) (l : Nat) (o o' : Obj), G x W → W.heap[l]? = some o → o.isCells = false → G x (W.putObj l o'))
    (I : List α → World → Prop) (hI : OwnFrom w.heap.size I) (h0 : I [] w) (A1 : α → Nat → Act → World → Prop)
    (hA1 : ∀ (x : α) (z : Nat) (a1 : Act) (W : World) (l : Nat) (o o' : Obj), A1 x z a1 W → W.heap[l]? = some o → o.isCells = false → A1 x z a1 (W.putObj l o'))
    (hGx : ∀ (x : α) (W W' : World), G x W → Ext W W' → G x W') (hKx : ∀ W W', Ext W W' → Kp W W')
    (hassign : ∀ (l : Nat) (x : α) (W : World) (K : Act → World → Prop), G x W → (∀ a1 W1, Ext W W1 → A1 x W.heap.size a1 W1 → K a1 W1) →
      assign.wpIn (F.inRound l) (n - 1 - 1) P (Exit.then K (fun _ _ _ => False)) { tmps := (ps.zip (encs x)).foldl (fun t (p, v) => t.setIfInBounds p v) a.tmps, defers := [] } W)
    (hbody : ∀ (l : Nat) (pre : List α) (x : α) (W0 W : World) (a1 : Act), I pre W0 → I pre W → G x W → A1 x W0.heap.size a1 W → (∀ (b : Nat) (o : Obj), W0.heap[b]? = some o → o.isCells = true → W.heap[b]? = some o) → pre.length < N → body.wpIn (F.inRound l) (n - 1 - 1) P (roundEnd w.heap.size Kp I (pre ++ [x]) W) a1 W)
    (hdone : ∀ (D : Nat) (xs : List α) (W : World), w.heap.size ≤ D → S xs → I xs W → W.heap[D]? = some (.deferred (some [])) → Q .normal { a with defers := { target := .collected D, args := #[] } :: a.defers } W) :
    (Code.rangeFunc g ps assign body).wpIn F n P Q a w := by
  refine wpIn_rangeFunc fun fn hfn => ?_
  rw [hro]
  obtain ⟨rec, hrec⟩ : ∃ rec : LoopState → Option Code → Loop, rec = fun st pe => { state := st, pending := pe, fn, tmps := a.tmps, params := ps, assign, body, defers := w.heap.size } := ⟨_, rfl⟩
  obtain ⟨V, hV⟩ : ∃ V, (w.alloc (.deferred (some []))).alloc (.loop (rec .ready none)) = V := ⟨_, rfl⟩
  have hL : V.heap[w.heap.size + 1]? = some (.loop (rec .ready none)) := by
    have := World.alloc_heap_new (w.alloc (.deferred (some []))) (.loop (rec .ready none))
    rw [World.size_alloc] at this
    rw [← hV]
    exact this
  have hD : V.heap[w.heap.size]? = some (.deferred (some [])) := by
    rw [← hV]
    exact (Below.heap_alloc _ _ _ (by simp)).trans (World.alloc_heap_new w _)
  have hIV : I [] V := by rw [← hV]; exact hI.alloc _ (hI.alloc _ h0)
  have hbV : Below w0.heap.size w0 V := by
    rw [← hV]
    exact hb0.trans ((((Below.refl _ w).alloc (Nat.le_refl _) _).alloc (by simp) _).mono hb0.size)
  have hz : w.heap.size + 2 ≤ V.heap.size := by rw [← hV]; simp
  have hE : (Instr.enterLoop fn a.tmps ps assign body none).run P w = .ok (w.heap.size + 1, [{ target := .collected w.heap.size, args := #[] }]) V := by
    rw [← hV, hrec]
    exact run_enterLoop_outer _ _ _ _ _
  clear hV
  refine ⟨w.heap.size + 1, [{ target := .collected w.heap.size, args := #[] }], V, { target := .fn (.func gf) lb, args := #[.func (.yield (w.heap.size + 1)) #[] #[]] }, V, gf,
    #[.func (.yield (w.heap.size + 1)) #[] #[]] ++ lb, V, ?_, ?_, ?_, ?_, fun _ => h1, ?_⟩
  · exact hE
  · simp only [resolve, hg]
    simp [go_sem]
  · intro f' hf'
    simp [Target.leads] at hf'
    subst hf'
    exact hFg
  · simp [invoke, go_sem, eg]
  · have far : ∀ {A B : World} {row : Option Nat}, (∀ r, row = some r → V.heap.size ≤ r ∧ ∃ o : Obj, A.heap[r]? = some o ∧ o.isWalk = true) → (∀ r, row = some r → w.heap.size ≤ r ∧ ∃ o : Obj, A.heap[r]? = some o ∧ o.isCells = false) :=
      fun hr r e => by
        obtain ⟨hB, o, ho, hw⟩ := hr r e
        exact ⟨by omega, o, ho, Obj.not_cells_of_walk hw⟩
    refine (hseq (w.heap.size + 1) (fun pre W => I pre W ∧ W.heap[w.heap.size + 1]? = some (.loop (rec .ready none)) ∧ W.heap[w.heap.size]? = some (.deferred (some []))) V hbV
      (fun s A B row hs hg' hr => ⟨hI s A B row hs.1 hg' (far (B := B) hr), (grownBy_keeps hg' (fun r e => (hr r e).2) hs.2.1 rfl).trans hs.2.1, (grownBy_keeps hg' (fun r e => (hr r e).2) hs.2.2 rfl).trans hs.2.2⟩)
      ?_ ⟨hIV, hL, hD⟩).mono ?_
    · rintro pre x W ⟨hi, hl, hk⟩ hgx hlen
      have hlt : w.heap.size + 1 < W.heap.size := (Array.getElem?_eq_some_iff.1 hl).1
      have hy := run_yield (P := P) (args := encs x) hl (by rw [hrec]; exact hps x)
      rw [hrec] at hy
      refine ⟨fn, _, assign, body, hy, roundIn_of_wpIn hfn (hassign _ x W _ hgx fun a1 W1 hx1 ha1 => ?_)⟩
      have hl1 := (hx1.block hlt).trans hl
      have hk1 := (hx1.block (by omega : w.heap.size < W.heap.size)).trans hk
      have hlt1 : w.heap.size + 1 < W1.heap.size := (Array.getElem?_eq_some_iff.1 hl1).1
      have hi1 : I pre W1 := hI _ _ _ none hi ⟨hx1.os, hx1.tape, hx1.output, hx1.size, fun k hk _ => hx1.block hk⟩ (fun r e => by cases e)
      have hg1 := hGx x W W1 hgx hx1
      have hw1 := hKx W W1 hx1
      refine ⟨_, run_beginRound hl1 (by rw [hrec]), ?_⟩
      generalize hW2 : W1.putObj (w.heap.size + 1) (.loop { rec .ready none with state := .busy }) = W2
      have hl2 : W2.heap[w.heap.size + 1]? = some (.loop { rec .ready none with state := .busy }) := by rw [← hW2]; exact World.putObj_heap_same hlt1
      have hk2 : W2.heap[w.heap.size]? = some (.deferred (some [])) := by rw [← hW2]; exact (World.putObj_heap_other (by omega)).trans hk1
      have hw2 : Kp W W2 := hKt hw1 (by rw [← hW2]; exact hKb _ _ _ _ (by omega) hl1 rfl rfl)
      have hi2 : I pre W2 := by rw [← hW2]; exact hI.putObj _ hi1 (by omega) hl1 rfl
      have hg2 : G x W2 := by rw [← hW2]; exact hG x W1 _ _ _ hg1 hl1 rfl
      have ha2 : A1 x W.heap.size a1 W2 := by rw [← hW2]; exact hA1 x _ a1 W1 _ _ _ ha1 hl1 rfl
      have hb2 : ∀ (b : Nat) (o : Obj), W.heap[b]? = some o → o.isCells = true → W2.heap[b]? = some o := fun b o ho hc => by
        have h1 := (hx1.block (Array.getElem?_eq_some_iff.1 ho).1).trans ho
        have hne : b ≠ w.heap.size + 1 := fun e => by
          rw [e, hl] at ho
          injection ho with ho
          subst ho
          cases hc
        rw [← hW2]
        exact (World.putObj_heap_other hne).trans h1
      refine wpIn_mono (hbody _ pre x W _ a1 hi hi2 hg2 ha2 hb2 hlen) ?_
      rintro e a3 W3 hp
      cases e with
      | normal =>
        obtain ⟨hk3, hkp3, hi3⟩ := hp
        have hl3 := hk3.same _ _ (by omega) hl2 rfl
        have hr := run_endRound (P := P) none hl3
        rw [hrec] at hr
        exact ⟨_, _, hr, rfl, ⟨hI.putObj _ hi3 (by omega) hl3 rfl, by rw [hrec]; exact World.putObj_heap_same (Array.getElem?_eq_some_iff.1 hl3).1, (World.putObj_heap_other (by omega)).trans (hk3.same _ _ (Nat.le_refl _) hk2 rfl)⟩, hKt (hKt hw2 hkp3) (hKb _ _ _ _ (by omega) hl3 rfl rfl)⟩
      | ret => exact hp.elim
      | exit id => exact hp.elim
      | goto t => exact hp.elim
      | panic ch => exact hp.elim
      | outgrown => exact hp.elim
    · rintro e W2 ⟨⟨v, rfl⟩, xs, hS, hi, hl, hk⟩
      have hr := run_endLoop (P := P) hl (by rw [hrec]; simp)
      rw [hrec] at hr
      exact ⟨none, _, hr, hdone _ xs _ (Nat.le_refl _) hS (hI.putObj _ hi (by omega) hl rfl) ((World.putObj_heap_other (by omega)).trans hk)⟩
end Go.Proofs.Ytjlhfmedaandeaa
