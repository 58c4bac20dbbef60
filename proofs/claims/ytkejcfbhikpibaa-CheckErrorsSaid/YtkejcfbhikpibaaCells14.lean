import Derived.Test.YtkejcfbhikpibaaMarks
import Derived.Test.YtkejcfbhikpibaaCells10
import Derived.Test.YtkejcfbhikpibaaCells11
/- cells.walk: what is sure at the places that are reached, as a plain function; what lies where while it walks. -/
namespace Go.Proofs.Ytkejcfbhikpibaa
open Go.RowKit Go.ChangeShapes Go.WideShapes
set_option linter.unusedVariables false
set_option linter.unusedSimpArgs false
attribute [local go_sem] Oper.semAt_some

/-- One place after another one: the masks and the marks. -/
def come1 (m : Int) (s : List Int × List Bool) (n : Int) : List Int × List Bool := (comeS s.1 s.2 n.toNat m, s.2.set n.toNat true)
def wstep (ps : List Ins) (s : List Int × List Bool) (k : Nat) : List Int × List Bool :=
  if s.2.getD k false then (nextL ps k).foldl (come1 (bits .or .u16 (s.1.getD k 0) (wrM (ps.getD k zeroI)))) s else s
def wupto (ps : List Ins) (k : Nat) : List Int × List Bool := (List.range k).foldl (wstep ps) (List.replicate ps.length 0, rstart ps.length)
theorem wupto_succ (ps : List Ins) (k : Nat) : wupto ps (k + 1) = wstep ps (wupto ps k) k := by simp [wupto, List.range_succ, List.foldl_append]
/-- The visits up to a place: where, and with which mask. -/
def visits (ps : List Ins) (k : Nat) : List (Nat × Int) := (List.range k).filterMap fun j => if (wupto ps j).2.getD j false then some (j, (wupto ps j).1.getD j 0) else none
theorem visits_succ (ps : List Ins) (k : Nat) : visits ps (k + 1) = visits ps k ++ (if (wupto ps k).2.getD k false then [(k, (wupto ps k).1.getD k 0)] else []) := by
  unfold visits
  rw [List.range_succ, List.filterMap_append]
  congr 1
  rw [List.filterMap_cons, List.filterMap_nil]
  split
  · rename_i h
    split at h
    · cases h
    · rename_i h2
      rw [if_neg h2]
  · rename_i h
    split at h
    · rename_i h2
      cases h
      rw [if_pos h2]
    · cases h
theorem come_foldl_len (m : Int) : ∀ (ns : List Int) (s : List Int × List Bool), (ns.foldl (come1 m) s).1.length = s.1.length ∧ (ns.foldl (come1 m) s).2.length = s.2.length
  | [], s => ⟨rfl, rfl⟩
  | n :: ns, s => by
    have := come_foldl_len m ns (come1 m s n)
    simp only [List.foldl_cons]
    rw [this.1, this.2]
    simp [come1, comeS]
theorem wstep_len (ps : List Ins) (s : List Int × List Bool) (k : Nat) : (wstep ps s k).1.length = s.1.length ∧ (wstep ps s k).2.length = s.2.length := by
  unfold wstep
  split
  · exact come_foldl_len _ _ _
  · exact ⟨rfl, rfl⟩
theorem wupto_len (ps : List Ins) : ∀ k, (wupto ps k).1.length = ps.length ∧ (wupto ps k).2.length = ps.length
  | 0 => by simp [wupto, rstart]
  | k + 1 => by rw [wupto_succ]; have := wstep_len ps (wupto ps k) k; have h := wupto_len ps k; exact ⟨this.1.trans h.1, this.2.trans h.2⟩
theorem masks_rep (n : Nat) : madeCells #[Value.int .u16 0] n = masks (List.replicate n 0) := by
  apply Array.toList_inj.1
  rw [toList_madeCells_one]
  simp [masks]
theorem info_u16' : (Try.prog.info? 29).map (fun i => (i.zero, i.size, i.bytes)) = some (some (.int .u16 0), 1, 2) := by kernel_rfl

/-- The rows and the boxes of walk. -/
structure WB (OV : World → Nat → Prop) (n gS gR bS bR bc : Nat) (s : List Int × List Bool) (W : World) : Prop where
  b1 : Blk W bR 53 #[.slice (some ⟨gR, 0, none⟩) n n]
  b2 : Blk W bS 55 #[.slice (some ⟨gS, 0, none⟩) n n]
  b3 : Blk W gR 4 (bools s.2)
  b4 : Blk W gS 29 (masks s.1)
  b5 : Blk W bc 77 #[.func (.func 60) #[] #[.pointer (some ⟨bR, 0, none⟩), .pointer (some ⟨bS, 0, none⟩)]]
  n1 : ¬ OV W bR
  n2 : ¬ OV W bS
  n3 : ¬ OV W gR
  n4 : ¬ OV W gS
  n5 : ¬ OV W bc
theorem WB.ext {OV : World → Nat → Prop} {n gS gR bS bR bc : Nat} {s : List Int × List Bool} {W W' : World} (h : WB OV n gS gR bS bR bc s W) (e : Ext W W') (o : ∀ b, OV W' b ↔ OV W b) : WB OV n gS gR bS bR bc s W' :=
  ⟨h.b1.ext e, h.b2.ext e, h.b3.ext e, h.b4.ext e, h.b5.ext e, fun k => h.n1 ((o _).1 k), fun k => h.n2 ((o _).1 k), fun k => h.n3 ((o _).1 k), fun k => h.n4 ((o _).1 k), fun k => h.n5 ((o _).1 k)⟩
theorem WB.vk {OV : World → Nat → Prop} {n gS gR bS bR bc : Nat} {s : List Int × List Bool} {W W' : World} (h : WB OV n gS gR bS bR bc s W) (k : VK OV W W') : WB OV n gS gR bS bR bc s W' :=
  ⟨(k.blk h.b1 h.n1).1, (k.blk h.b2 h.n2).1, (k.blk h.b3 h.n3).1, (k.blk h.b4 h.n4).1, (k.blk h.b5 h.n5).1, (k.blk h.b1 h.n1).2, (k.blk h.b2 h.n2).2, (k.blk h.b3 h.n3).2, (k.blk h.b4 h.n4).2, (k.blk h.b5 h.n5).2⟩
theorem WB.noncells {OV : World → Nat → Prop} {n gS gR bS bR bc : Nat} {s : List Int × List Bool} {W W' : World} {row : Option Nat} (h : WB OV n gS gR bS bR bc s W) (hg : W.grownBy W' row) (hr : ∀ r, row = some r → ∃ o : Obj, W.heap[r]? = some o ∧ o.isCells = false) (o : ∀ b, OV W' b ↔ OV W b) : WB OV n gS gR bS bR bc s W' :=
  ⟨blk_noncells h.b1 hg hr, blk_noncells h.b2 hg hr, blk_noncells h.b3 hg hr, blk_noncells h.b4 hg hr, blk_noncells h.b5 hg hr, fun k => h.n1 ((o _).1 k), fun k => h.n2 ((o _).1 k), fun k => h.n3 ((o _).1 k), fun k => h.n4 ((o _).1 k), fun k => h.n5 ((o _).1 k)⟩
/-- What come writes. -/
structure Came (gS gR : Nat) (W W' : World) : Prop where
  os : W'.os = W.os
  tape : W'.tape = W.tape
  output : W'.output = W.output
  size : W'.heap.size = W.heap.size
  keep : ∀ b, b ≠ gR → b ≠ gS → W'.heap[b]? = W.heap[b]?
theorem came_of {gS gR n : Nat} {b : Bool} {x : Int} {w w' : World}
    (e : w' = ((if b then w else w.setCell ⟨gS, n, none⟩ (.int .u16 65535)).setCell ⟨gR, n, none⟩ (.bool true)).setCell ⟨gS, n, none⟩ (.int .u16 x)) : Came gS gR w w' := by
  subst e
  have key : ∀ (W : World) (g : Nat) (u : Value), (g = gR ∨ g = gS) → Came gS gR W (W.setCell ⟨g, n, none⟩ u) := fun W g u hg =>
    ⟨rfl, rfl, rfl, by simp, fun b h1 h2 => Below.heap_setCell W ⟨g, n, none⟩ u b (by rcases hg with rfl | rfl <;> assumption)⟩
  have tr : ∀ {A B C : World}, Came gS gR A B → Came gS gR B C → Came gS gR A C := fun h k => ⟨k.os.trans h.os, k.tape.trans h.tape, k.output.trans h.output, k.size.trans h.size, fun b h1 h2 => (k.keep b h1 h2).trans (h.keep b h1 h2)⟩
  cases b with
  | true => exact tr (key _ _ _ (.inl rfl)) (key _ _ _ (.inr rfl))
  | false => exact tr (tr (key _ _ _ (.inr rfl)) (key _ _ _ (.inl rfl))) (key _ _ _ (.inr rfl))
theorem Came.off {OV : World → Nat → Prop} {gS gR B : Nat} {W W' : World} (h : Came gS gR W W') (h1 : B ≤ gS ∧ B ≤ gR) (n3 : ¬ OV W gR) (n4 : ¬ OV W gS) : Off OV B W W' :=
  ⟨h.os, h.tape, h.output, by rw [h.size]; exact Nat.le_refl _, fun b hb ho => h.keep b (fun e => by subst e; rcases ho with ho | ho; omega; exact n3 ho) (fun e => by subst e; rcases ho with ho | ho; omega; exact n4 ho)⟩
theorem Came.blk {gS gR : Nat} {W W' : World} (h : Came gS gR W W') {b : Nat} {t : TypeId} {cs : Array Value} (hb : Blk W b t cs) (h1 : b ≠ gR) (h2 : b ≠ gS) : Blk W' b t cs := (h.keep b h1 h2).trans hb
theorem WB.come {OV : World → Nat → Prop} {n gS gR bS bR bc : Nat} {s : List Int × List Bool} {W W' : World} (h : WB OV n gS gR bS bR bc s W) (hne : gR ≠ gS) (h1 : bR ≠ gS ∧ bR ≠ gR) (h2 : bS ≠ gS ∧ bS ≠ gR) (h3 : bc ≠ gS ∧ bc ≠ gR) (z : Nat) (m : Int)
    (e : W' = ((if s.2.getD z false then W else W.setCell ⟨gS, z, none⟩ (.int .u16 65535)).setCell ⟨gR, z, none⟩ (.bool true)).setCell ⟨gS, z, none⟩ (.int .u16 (bits .and .u16 (if s.2.getD z false then s.1.getD z 0 else 65535) m)))
    (o : ∀ b, OV W' b ↔ OV W b) : WB OV n gS gR bS bR bc (come1 m s z) W' := by
  obtain ⟨e3, e4, _, ek⟩ := come_world (len := 0) hne h.b3 h.b4 e
  refine ⟨ek _ _ _ h.b1 h1.2 h1.1, ek _ _ _ h.b2 h2.2 h2.1, ?_, ?_, ek _ _ _ h.b5 h3.2 h3.1, fun k => h.n1 ((o _).1 k), fun k => h.n2 ((o _).1 k), fun k => h.n3 ((o _).1 k), fun k => h.n4 ((o _).1 k), fun k => h.n5 ((o _).1 k)⟩
  · simpa [come1] using e3
  · simpa [come1] using e4
/-- What holds between the rounds of the loop over the ways. -/
structure WL (OV : World → Nat → Prop) (VI : List (Nat × Int) → World → Prop) (w : World) (n gS gR bS bR bc g7 g8 k : Nat) (P : Ins) (Ds : List Nat) (vs : List (Nat × Int)) (m : Int) (s : List Int × List Bool) (pre : List Int) (W : World) : Prop where
  far : ∀ y ∈ pre, (k : Int) < y
  vi : VI vs W
  vk : VK OV w W
  wb : WB OV n gS gR bS bR bc (pre.foldl (come1 m) s) W
  b7 : Blk W g7 3 #[.int .i64 k]
  b8 : Blk W g8 32 P.cells
  marks : marksAt Ds W
theorem WL_own (OV : World → Nat → Prop) (VI : List (Nat × Int) → World → Prop) (w : World) (hO : Owns OV VI w.heap.size) (n gS gR bS bR bc g7 g8 k : Nat) (P : Ins) (Ds : List Nat) (vs : List (Nat × Int)) (m : Int) (s : List Int × List Bool) (B : Nat) (hB : w.heap.size ≤ B) (hD : ∀ D ∈ Ds, D < B) :
    OwnFrom B (WL OV VI w n gS gR bS bR bc g7 g8 k P Ds vs m s) := fun pre W W' row h hg hr => by
  have hnc : ∀ r, row = some r → ∃ o : Obj, W.heap[r]? = some o ∧ o.isCells = false := fun r e => (hr r e).2
  have hoff : Off OV w.heap.size W W' := Off.of_grown hg (fun r e => ⟨Nat.le_trans hB (hr r e).1, fun ho => by
    obtain ⟨cs, t, z, hc⟩ := hO.cells _ _ _ h.vi ho
    obtain ⟨o, h1, h2⟩ := hnc r e
    rw [hc] at h1
    cases h1
    cases h2⟩)
  obtain ⟨hv, ho⟩ := hO.off h.vi hoff
  refine ⟨h.far, hv, hO.vk h.vi hoff h.vk, h.wb.noncells hg hnc ho, blk_noncells h.b7 hg hnc, blk_noncells h.b8 hg hnc, h.marks.1, fun D hm => ?_⟩
  have hk := h.marks.2 D hm
  exact (hg.block D (Array.getElem?_eq_some_iff.1 hk).1 (fun e => by have := (hr D e.symm).1; have := hD D hm; omega)).trans hk
theorem foldl_come_at (m : Int) (k : Nat) : ∀ (pre : List Int) (s : List Int × List Bool), (∀ y ∈ pre, (k : Int) < y) → (pre.foldl (come1 m) s).1.getD k 0 = s.1.getD k 0
  | [], s, _ => rfl
  | y :: pre, s, h => by
    rw [List.foldl_cons, foldl_come_at m k pre _ (fun z hz => h z (by simp [hz]))]
    have hy := h y (by simp)
    have hne : y.toNat ≠ k := by omega
    simp [come1, comeS, List.getD_eq_getElem?_getD, List.getElem?_set, hne]
theorem start_come (n : Nat) : come1 0 (List.replicate n 0, List.replicate n false) 0 = (List.replicate n 0, rstart n) := by
  have h : ((List.replicate n false).getD 0 false) = false := by cases n <;> rfl
  unfold come1 comeS rstart
  simp only [Int.toNat_zero, h, Bool.false_eq_true, if_false]
  rw [show bits .and .u16 65535 0 = 0 by decide, List.set_replicate_self]
end Go.Proofs.Ytkejcfbhikpibaa
