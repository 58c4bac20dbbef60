import Derived.Test.YtjlhfmedaandeaaCodA
import Derived.Test.YtjlhfmedaandeaaBase
import Derived.Test.YtjlhfmedaandeaaChunk
import Derived.Test.YtjlhfmedaandeaaPrg
/- slices.Backward over symbolic instructions: what is yielded, and when. -/
namespace Go.Proofs.Ytjlhfmedaandeaa
open Go.RowKit Go.ChangeShapes Go.WideShapes
set_option linter.unusedVariables false
set_option linter.unusedSimpArgs false
attribute [local go_sem] Oper.semAt_some

/-- The slice that the iterator walks, and its box, stay. -/
def KpR (s : Nat) (A : Option Addr) (n c : Nat) (xs : List Value) (W W' : World) : Prop := (W.cell? ⟨s, 0, none⟩ = some (.slice A n c) → W'.cell? ⟨s, 0, none⟩ = some (.slice A n c)) ∧ (InM W A xs → InM W' A xs)
theorem KpR.trans {s : Nat} {A : Option Addr} {n c : Nat} {xs : List Value} {a b d : World} (h : KpR s A n c xs a b) (k : KpR s A n c xs b d) : KpR s A n c xs a d := ⟨fun h1 => k.1 (h.1 h1), fun h1 => k.2 (h.2 h1)⟩
theorem back_step (n j : Nat) (h : j < n) : (List.range n).reverse.take (n - j) = (List.range n).reverse.take (n - (j + 1)) ++ [j] := by
  have hl : n - (j + 1) < (List.range n).reverse.length := by simp; omega
  rw [show n - j = (n - (j + 1)) + 1 by omega, List.take_succ_eq_append_getElem hl]
  congr 2
  rw [List.getElem_reverse, List.getElem_range]
  simp
  omega

set_option maxHeartbeats 2000000 in
set_option maxRecDepth 100000 in
theorem backS1_in (l s n c B : Nat) (A : Option Addr) (ps : List Sy) (hp : ps.length = n) (hb : n ≤ 1000000) (J : List Nat → World → Prop) (hJ : AbidesFrom B J)
    (hY : ∀ pre x W, J pre W → x < n → pre.length < n → YieldAt .wide 1 Try.prog l #[.int .i64 (x : Nat), (ps.getD x zeroS).val] W fun e W' => e = .returned (.bool true) ∧ J (pre ++ [x]) W' ∧ KpR s A n c (sc ps) W W')
    (W : World) (h1 : W.cell? ⟨s, 0, none⟩ = some (.slice A n c)) (hM : InM W A (sc ps)) (h0 : J [] W) :
    CallsIn .wide 2 Try.prog 80 #[.func (.yield l) #[] #[], .pointer (some ⟨s, 0, none⟩)] W fun e W' => (∃ v, e = .returned v) ∧ ∃ xs : List Nat, xs = (List.range n).reverse ∧ J xs W' := by
  have HP := Lib.hid hp
  have w1 : IntKind.i64.wrap ((n : Int) - 1) = (n : Int) - 1 := IntWalk.i64_in _ (by omega)
  clear hp
  refine callsIn_of_wp Try.func80 rfl trivial ?_ rfl
  simp only [Try.ntmps80, List.size_toArray, List.length_cons, List.length_nil, Nat.reduceAdd, Nat.reduceSub, Array.replicate_succ, Array.replicate_zero, List.push_toArray, List.append_toArray, List.nil_append, List.cons_append]
  gi_wp2
  gi_loopw [3] (fun i wr => ∃ (k : Nat) (y : Int), k ≤ n ∧ y = (k : Int) - 1 ∧ i = .int .i64 y ∧ J ((List.range n).reverse.take (n - k)) wr ∧ wr.cell? ⟨s, 0, none⟩ = some (.slice A n c) ∧ InM wr A (sc ps)) (fun i _ => (intOf i + 1).toNat)
  case atStart => exact ⟨n, _, Nat.le_refl _, rfl, rfl, by rw [Nat.sub_self]; exact h0, h1, hM⟩
  case round =>
    clear h1 hM h0
    obtain ⟨k, y, hk, hy, rfl, hJs, h1, hM⟩ := hrel
    rcases k with _ | j
    · have hy' : y = -1 := by omega
      subst hy'
      rw [Nat.sub_zero, List.take_of_length_le (by simp)] at hJs
      clear hy w1
      gi_wp2
      go_end0
      exact ⟨⟨_, rfl⟩, _, rfl, hJs⟩
    · have hy' : y = j := by omega
      subst hy'
      have hjn : j < n := by omega
      have hkp : j < ps.length := by rw [HP.out]; exact hjn
      obtain ⟨b1, o1, rfl, hb1⟩ := sym_some hM (by omega)
      obtain ⟨c0, c1, c2, c3⟩ := sym_cells hM hkp
      have hst := Lib.hid (back_step n j hjn)
      have hgd : ps.getD j zeroS = ps[j] := by rw [List.getD_eq_getElem?_getD, List.getElem?_eq_getElem hkp]; rfl
      have hYd := Lib.hid (fun (W : World) (hj : J ((List.range n).reverse.take (n - (j + 1))) W) => hY _ j W hj hjn (by rw [List.length_take]; simp; omega))
      rw [hgd] at hYd
      generalize ps[j] = E at *
      obtain ⟨co, kk, th, el⟩ := E
      simp only [Sy.val, Sy.cells] at hYd
      have b3 : (0 : Int) ≤ j := by omega
      have b4 : (j : Int) < n := by omega
      have w2 : IntKind.i64.wrap ((j : Int) - 1) = (j : Int) - 1 := IntWalk.i64_in _ (by omega)
      have HH := Lib.hid (And.intro h1 hM)
      have HJ := Lib.hid hJ
      have HJS := Lib.hid hJs
      clear hkp hY hy hgd w1 hM hJ hJs hb1
      gi_wp2_with fail
      obtain ⟨fn, tmps, assign, body, hy, hR⟩ := hYd.out _ HJS.out
      rw [hy]
      gi_wp2
      refine hR.mono ?_
      rintro e W3 ⟨rfl, hJ3, hB3⟩
      gi_wp2
      go_roundw
      case rel => exact ⟨j, _, by omega, rfl, rfl, by rw [hst.out]; exact hJ3, hB3.1 HH.out.1, hB3.2 HH.out.2⟩
      case measure => first | (simp [intOf]; done) | (simp [intOf]; omega)
theorem backS_in (A : Option Addr) (n c : Nat) (w : World) :
    CallsIn .wide 2 Try.prog 63 #[.slice A n c] w fun e w' => e = .returned (.func (.func 80) #[] #[.pointer (some ⟨w.heap.size, 0, none⟩)]) ∧ w' = w.alloc (.cells #[.slice A n c] 22) := by
  refine callsIn_of_wp Try.func63 rfl trivial ?_ rfl
  simp only [Try.ntmps63, List.size_toArray, List.length_cons, List.length_nil, Nat.reduceAdd, Nat.reduceSub, Array.replicate_succ, Array.replicate_zero, List.push_toArray, List.append_toArray, List.nil_append, List.cons_append]
  gi_wp2
  go_ret
  exact ⟨rfl, rfl⟩
theorem backS_tells (s n c : Nat) (A : Option Addr) (ps : List Sy) (hp : ps.length = n) (hb : n ≤ 1000000) (w : World) (hs : s < w.heap.size)
    (h1 : w.cell? ⟨s, 0, none⟩ = some (.slice A n c)) (hM : InM w A (sc ps)) :
    Tells .wide 2 Try.prog 80 #[.pointer (some ⟨s, 0, none⟩)] (fun i : Nat => #[.int .i64 i, (ps.getD i zeroS).val]) (fun x _ => x < n) (KpR s A n c (sc ps)) (fun xs => xs = (List.range n).reverse) n w := fun l J W hW hJ hY h0 => by
  have h1' := (hW.cell (p := ⟨s, 0, none⟩) hs).trans h1
  have hM' : InM W A (sc ps) := hM.ext hW
  exact backS1_in l s n c W.heap.size A ps hp hb J hJ (fun pre x W hj hx hl => hY pre x W hj hx hl) W h1' hM' h0
end Go.Proofs.Ytjlhfmedaandeaa

/- slices.Backward over instructions: what is yielded, and when. -/
namespace Go.Proofs.Ytjlhfmedaandeaa
open Go.RowKit Go.ChangeShapes Go.WideShapes
set_option linter.unusedVariables false
set_option linter.unusedSimpArgs false
attribute [local go_sem] Oper.semAt_some

set_option maxHeartbeats 2000000 in
set_option maxRecDepth 100000 in
theorem backI1_in (l s n c B : Nat) (A : Option Addr) (ps : List Ins) (hp : ps.length = n) (hb : n ≤ 1000000) (J : List Nat → World → Prop) (hJ : AbidesFrom B J)
    (hY : ∀ pre x W, J pre W → x < n → pre.length < n → YieldAt .wide 1 Try.prog l #[.int .i64 (x : Nat), (ps.getD x zeroI).val] W fun e W' => e = .returned (.bool true) ∧ J (pre ++ [x]) W' ∧ KpR s A n c (pc ps) W W')
    (W : World) (h1 : W.cell? ⟨s, 0, none⟩ = some (.slice A n c)) (hM : InM W A (pc ps)) (h0 : J [] W) :
    CallsIn .wide 2 Try.prog 107 #[.func (.yield l) #[] #[], .pointer (some ⟨s, 0, none⟩)] W fun e W' => (∃ v, e = .returned v) ∧ ∃ xs : List Nat, xs = (List.range n).reverse ∧ J xs W' := by
  have HP := Lib.hid hp
  have w1 : IntKind.i64.wrap ((n : Int) - 1) = (n : Int) - 1 := IntWalk.i64_in _ (by omega)
  clear hp
  refine callsIn_of_wp Try.func107 rfl trivial ?_ rfl
  simp only [Try.ntmps107, List.size_toArray, List.length_cons, List.length_nil, Nat.reduceAdd, Nat.reduceSub, Array.replicate_succ, Array.replicate_zero, List.push_toArray, List.append_toArray, List.nil_append, List.cons_append]
  gi_wp2
  gi_loopw [3] (fun i wr => ∃ (k : Nat) (y : Int), k ≤ n ∧ y = (k : Int) - 1 ∧ i = .int .i64 y ∧ J ((List.range n).reverse.take (n - k)) wr ∧ wr.cell? ⟨s, 0, none⟩ = some (.slice A n c) ∧ InM wr A (pc ps)) (fun i _ => (intOf i + 1).toNat)
  case atStart => exact ⟨n, _, Nat.le_refl _, rfl, rfl, by rw [Nat.sub_self]; exact h0, h1, hM⟩
  case round =>
    clear h1 hM h0
    obtain ⟨k, y, hk, hy, rfl, hJs, h1, hM⟩ := hrel
    rcases k with _ | j
    · have hy' : y = -1 := by omega
      subst hy'
      rw [Nat.sub_zero, List.take_of_length_le (by simp)] at hJs
      clear hy w1
      gi_wp2
      go_end0
      exact ⟨⟨_, rfl⟩, _, rfl, hJs⟩
    · have hy' : y = j := by omega
      subst hy'
      have hjn : j < n := by omega
      have hkp : j < ps.length := by rw [HP.out]; exact hjn
      obtain ⟨b1, o1, rfl, hb1⟩ := prog_some hM (by omega)
      obtain ⟨c0, c1, c2, c3⟩ := prog_cells hM hkp
      have hst := Lib.hid (back_step n j hjn)
      have hgd : ps.getD j zeroI = ps[j] := by rw [List.getD_eq_getElem?_getD, List.getElem?_eq_getElem hkp]; rfl
      have hYd := Lib.hid (fun (W : World) (hj : J ((List.range n).reverse.take (n - (j + 1))) W) => hY _ j W hj hjn (by rw [List.length_take]; simp; omega))
      rw [hgd] at hYd
      generalize ps[j] = E at *
      obtain ⟨co, jt, jf, kk⟩ := E
      simp only [Ins.val, Ins.cells] at hYd
      have b3 : (0 : Int) ≤ j := by omega
      have b4 : (j : Int) < n := by omega
      have w2 : IntKind.i64.wrap ((j : Int) - 1) = (j : Int) - 1 := IntWalk.i64_in _ (by omega)
      have HH := Lib.hid (And.intro h1 hM)
      have HJ := Lib.hid hJ
      have HJS := Lib.hid hJs
      clear hkp hY hy hgd w1 hM hJ hJs hb1
      gi_wp2_with fail
      obtain ⟨fn, tmps, assign, body, hy, hR⟩ := hYd.out _ HJS.out
      rw [hy]
      gi_wp2
      refine hR.mono ?_
      rintro e W3 ⟨rfl, hJ3, hB3⟩
      gi_wp2
      go_roundw
      case rel => exact ⟨j, _, by omega, rfl, rfl, by rw [hst.out]; exact hJ3, hB3.1 HH.out.1, hB3.2 HH.out.2⟩
      case measure => first | (simp [intOf]; done) | (simp [intOf]; omega)
theorem backI_in (A : Option Addr) (n c : Nat) (w : World) :
    CallsIn .wide 2 Try.prog 94 #[.slice A n c] w fun e w' => e = .returned (.func (.func 107) #[] #[.pointer (some ⟨w.heap.size, 0, none⟩)]) ∧ w' = w.alloc (.cells #[.slice A n c] 33) := by
  refine callsIn_of_wp Try.func94 rfl trivial ?_ rfl
  simp only [Try.ntmps94, List.size_toArray, List.length_cons, List.length_nil, Nat.reduceAdd, Nat.reduceSub, Array.replicate_succ, Array.replicate_zero, List.push_toArray, List.append_toArray, List.nil_append, List.cons_append]
  gi_wp2
  go_ret
  exact ⟨rfl, rfl⟩
theorem backI_tells (s n c : Nat) (A : Option Addr) (ps : List Ins) (hp : ps.length = n) (hb : n ≤ 1000000) (w : World) (hs : s < w.heap.size)
    (h1 : w.cell? ⟨s, 0, none⟩ = some (.slice A n c)) (hM : InM w A (pc ps)) :
    Tells .wide 2 Try.prog 107 #[.pointer (some ⟨s, 0, none⟩)] (fun i : Nat => #[.int .i64 i, (ps.getD i zeroI).val]) (fun x _ => x < n) (KpR s A n c (pc ps)) (fun xs => xs = (List.range n).reverse) n w := fun l J W hW hJ hY h0 => by
  have h1' := (hW.cell (p := ⟨s, 0, none⟩) hs).trans h1
  have hM' : InM W A (pc ps) := hM.ext hW
  exact backI1_in l s n c W.heap.size A ps hp hb J hJ (fun pre x W hj hx hl => hY pre x W hj hx hl) W h1' hM' h0
end Go.Proofs.Ytjlhfmedaandeaa
