import Derived.Test.YtlicndonhmcmmaaPrg4
import Derived.Test.YtlicndonhmcmmaaTells
namespace Go.Proofs.Ytlicndonhmcmmaa
open Go.RowKit Go.ChangeShapes Go.WideShapes
set_option linter.unusedVariables false
set_option linter.unusedSimpArgs false
attribute [local go_sem] Oper.semAt_some

theorem grown_of_ext {W W' : World} (h : Ext W W') (row : Option Nat) : W.grownBy W' row := ⟨h.os, h.tape, h.output, h.size, fun k hk _ => h.block hk⟩
theorem own_noncells {W W' : World} {base : Nat} {e : TypeId} {size n : Nat} {v : Value} {xs : List Value} {row : Option Nat} (h : W.ownsRow base e size v n xs) (hg : W.grownBy W' row) (hr : ∀ r, row = some r → ∃ o : Obj, W.heap[r]? = some o ∧ o.isCells = false) : W'.ownsRow base e size v n xs := by
  refine h.kept hg ?_
  rcases h.2 with ⟨hv, _⟩ | ⟨g, cap, cur, hv, _, hb, _⟩
  · subst hv
    exact .inl rfl
  · refine .inr fun e => ?_
    subst hv
    obtain ⟨o, ho, hc⟩ := hr g e.symm
    rw [hb] at ho
    injection ho with ho
    subst ho
    cases hc
theorem blk_noncells {W W' : World} {g : Nat} {t : TypeId} {cs : Array Value} {row : Option Nat} (h : Blk W g t cs) (hg : W.grownBy W' row) (hr : ∀ r, row = some r → ∃ o : Obj, W.heap[r]? = some o ∧ o.isCells = false) : Blk W' g t cs := by
  refine h.grown hg fun e => ?_
  obtain ⟨o, ho, hc⟩ := hr g e.symm
  unfold Blk at h
  rw [h] at ho
  injection ho with ho
  subst ho
  cases hc
/-- Rows of unlike types lie in unlike blocks. -/
theorem own_apart {W W' : World} {b1 b2 : Nat} {e1 e2 : TypeId} {s1 s2 n1 n2 : Nat} {v1 v2 : Value} {xs1 xs2 : List Value} (h : W.ownsRow b1 e1 s1 v1 n1 xs1) (k : W.ownsRow b2 e2 s2 v2 n2 xs2) (hne : e1 ≠ e2) (hg : W.grownBy W' v2.ownBlock) : W'.ownsRow b1 e1 s1 v1 n1 xs1 := by
  refine h.kept hg ?_
  rcases h.2 with ⟨hv, _⟩ | ⟨g, cap, cur, hv, _, hb, _⟩
  · subst hv
    exact .inl rfl
  · refine .inr fun e => ?_
    subst hv
    rcases k.2 with ⟨hv, _⟩ | ⟨g', cap', cur', hv, _, hb', _⟩
    · subst hv
      cases e
    · subst hv
      injection e with e
      subst e
      rw [hb] at hb'
      injection hb' with hb'
      injection hb' with _ h2
      exact hne h2
theorem own_apart_blk {W W' : World} {b1 : Nat} {e1 e2 : TypeId} {s1 n1 : Nat} {v1 : Value} {xs1 : List Value} {g : Nat} {cs : Array Value} (h : W.ownsRow b1 e1 s1 v1 n1 xs1) (k : Blk W g e2 cs) (hne : e1 ≠ e2) (hg : W.grownBy W' (some g)) : W'.ownsRow b1 e1 s1 v1 n1 xs1 := by
  refine h.kept hg ?_
  rcases h.2 with ⟨hv, _⟩ | ⟨g', cap, cur, hv, _, hb, _⟩
  · subst hv
    exact .inl rfl
  · refine .inr fun e => ?_
    subst hv
    injection e with e
    subst e
    unfold Blk at k
    rw [hb] at k
    injection k with k
    injection k with _ h2
    exact hne h2

theorem inM_below {w w' : World} {b off B : Nat} {xs : List Value} (h : InM w (some ⟨b, off, none⟩) xs) (hb : b < B) (hB : Below B w w') : InM w' (some ⟨b, off, none⟩) xs := fun j u hu =>
  ⟨b, off, rfl, (hB.cell (p := ⟨b, off + j, none⟩) hb).trans (h.cell hu)⟩
/-- A value that is yielded: whose bytes, where. -/
structure Yl where
  i : Nat
  A : Option Addr
  c : Nat
def Yl.val (y : Yl) : Value := .slice y.A 8 y.c
def YG (ps : List Ins) (y : Yl) (W : World) : Prop := ∃ h : y.i < ps.length, W.ownsRow 0 5 1 (.slice y.A 8 y.c) 8 (nums .u8 ps[y.i].bytes)

set_option maxHeartbeats 2000000 in
set_option maxRecDepth 100000 in
theorem each1_in (l s n c B0 B : Nat) (A : Option Addr) (ps : List Ins) (hp : ps.length = n) (hb : n ≤ 1000000) (hok : ∀ i ∈ ps, i.ok) (J : List Yl → World → Prop) (hJ : AbidesFrom B J) (hA : 0 < n → ∀ a, A = some a → a.block < B0)
    (hY : ∀ pre x W, J pre W → YG ps x W → pre.length < n → YieldAt .wide 1 Try.prog l #[.slice x.A 8 x.c] W fun e W' => e = .returned (.bool true) ∧ J (pre ++ [x]) W' ∧ Below B0 W W')
    (W : World) (h1 : W.cell? ⟨s, 0, none⟩ = some (.slice A n c)) (hM : InM W A (pc ps)) (h0 : J [] W) :
    CallsIn .wide 2 Try.prog 87 #[.func (.yield l) #[] #[], .pointer (some ⟨s, 0, none⟩)] W fun e W' => (∃ v, e = .returned v) ∧ ∃ xs : List Yl, xs.map (·.i) = List.range n ∧ J xs W' := by
  have HP := Lib.hid hp
  clear hp
  refine callsIn_of_wp Try.func87 rfl trivial ?_ rfl
  simp only [Try.ntmps87, List.size_toArray, List.length_cons, List.length_nil, Nat.reduceAdd, Nat.reduceSub, Array.replicate_succ, Array.replicate_zero, List.push_toArray, List.append_toArray, List.nil_append, List.cons_append]
  gi_wp2
  gi_loopw [7] (fun i wr => ∃ (k : Nat) (pre : List Yl), k ≤ n ∧ i = .int .i64 k ∧ pre.map (·.i) = List.range k ∧ J pre wr ∧ InM wr A (pc ps)) (fun i _ => n - (intOf i).toNat)
  case atStart => exact ⟨0, [], Nat.zero_le _, rfl, rfl, h0, hM⟩
  case round =>
    clear h1 hM h0
    obtain ⟨k, pre, hk, rfl, hpre, hJs, hM⟩ := hrel
    by_cases hlt : k < n
    · have hkp : k < ps.length := by rw [HP.out]; exact hlt
      obtain ⟨b1, o1, rfl, hb1⟩ := prog_some hM (by omega)
      obtain ⟨c0, c1, c2, c3⟩ := prog_cells hM hkp
      have HE := Lib.hid (fun W => encode_any ps[k] (hok _ (List.getElem_mem hkp)) W)
      have hYd := Lib.hid (fun A c (W : World) (hj : J pre W) (ho : W.ownsRow 0 5 1 (.slice A 8 c) 8 (nums .u8 ps[k].bytes)) => hY pre ⟨k, A, c⟩ W hj ⟨hkp, ho⟩ (by have := congrArg List.length hpre; simp at this; omega))
      have hpre' := Lib.hid (show ∀ A c, (pre ++ [⟨k, A, c⟩] : List Yl).map (·.i) = List.range (k + 1) from fun A c => by rw [List.map_append, hpre, List.range_succ]; rfl)
      generalize ps[k] = E at *
      obtain ⟨co, jt, jf, kk⟩ := E
      simp only [Ins.val, Ins.cells] at HE
      have b3 : (0 : Int) ≤ k := by omega
      have b4 : (k : Int) < n := by omega
      clear hkp hpre hY hlt
      gi_wp2_with fail
      gi_wp2_with (refine ⟨trivial, ?_⟩; gi_at_call 54; refine ((callsIn_wide (n := 1)).2 (HE.out _)).mono ?_; rintro e w1 ⟨E, ce, rfl, ho1, hx1⟩)
      have hx2 := hx1.one
      have hj1 : J pre w1 := hJ _ _ _ none hJs (grown_of_ext hx2 none) (fun r e => by cases e)
      obtain ⟨fn, tmps, assign, body, hy, hR⟩ := hYd.out E ce w1 hj1 (own_lower ho1 (Nat.zero_le _))
      have hM2 := hM.ext hx2
      have hbA := hA (by omega) _ rfl
      clear hM c0 c1 c2 c3 HE hYd hJs hJ hA hx1 ho1 hj1 hb1
      gi_wp2
      refine hR.mono ?_
      rintro e W3 ⟨rfl, hJ3, hB3⟩
      gi_wp2
      go_roundw
      case rel => exact ⟨k + 1, _, by omega, by go_num, hpre'.out _ _, hJ3, inM_below hM2 hbA hB3⟩
      case measure => simp [intOf]; omega
    · obtain rfl : k = n := by omega
      gi_wp2
      go_end0
      exact ⟨⟨_, rfl⟩, pre, hpre, hJs⟩

theorem each_in (A : Option Addr) (n c : Nat) (w : World) :
    CallsIn .wide 2 Try.prog 78 #[.slice A n c] w fun e w' => e = .returned (.func (.func 87) #[] #[.pointer (some ⟨w.heap.size, 0, none⟩)]) ∧ w' = w.alloc (.cells #[.slice A n c] 67) := by
  refine callsIn_of_wp Try.func78 rfl trivial ?_ rfl
  simp only [Try.ntmps78, List.size_toArray, List.length_cons, List.length_nil, Nat.reduceAdd, Nat.reduceSub, Array.replicate_succ, Array.replicate_zero, List.push_toArray, List.append_toArray, List.nil_append, List.cons_append]
  gi_wp2
  go_ret
  exact ⟨rfl, rfl⟩
theorem each_tells (s n c : Nat) (A : Option Addr) (ps : List Ins) (hp : ps.length = n) (hb : n ≤ 1000000) (hok : ∀ i ∈ ps, i.ok) (B0 : Nat) (hA : 0 < n → ∀ a, A = some a → a.block < B0) (w : World) (hs : s < w.heap.size) (hB : B0 ≤ w.heap.size)
    (h1 : w.cell? ⟨s, 0, none⟩ = some (.slice A n c)) (hM : InM w A (pc ps)) :
    Tells .wide 2 Try.prog 87 #[.pointer (some ⟨s, 0, none⟩)] (fun y : Yl => #[.slice y.A 8 y.c]) (YG ps) (Below B0) (fun ys => ys.map (·.i) = List.range n) n w := fun l J W hW hJ hY h0 => by
  have h1' := (hW.cell (p := ⟨s, 0, none⟩) hs).trans h1
  have hM' : InM W A (pc ps) := hM.ext hW
  exact each1_in l s n c B0 W.heap.size A ps hp hb hok J hJ hA (fun pre x W hj hg hl => hY pre x W hj hg hl) W h1' hM' h0
end Go.Proofs.Ytlicndonhmcmmaa
