import Derived.Test.YtlicndonhmcmmaaBase3
import Derived.Test.YtlicndonhmcmmaaWordsC
import Derived.RangeFuncNested
import Derived.RangeFuncBound
import Derived.RangeFuncCalls
import Derived.RangeFuncLeaves
import Derived.Shelf.Abstract
import Derived.Shelf.RegionOpen
import Derived.OwnWalkIn
import Derived.TacticsInMore
import Derived.LoopNIn
import Derived.LoopIn
import Derived.Sort.QuietTacIn
namespace Go.Proofs.Ytlicndonhmcmmaa
open Go.RowKit Go.ChangeShapes Go.WideShapes
set_option linter.unusedVariables false
attribute [local go_sem] Oper.semAt_some

/-- What lies in the cells s and t stays. -/
def KpB (s t : Nat) (W W' : World) : Prop := ∀ p v, (p = s ∨ p = t) → W.cell? ⟨p, 0, none⟩ = some v → W'.cell? ⟨p, 0, none⟩ = some v
theorem grown_drew (W : World) : W.grownBy W.drew none := ⟨rfl, rfl, rfl, Nat.le_refl _, fun _ _ _ => rfl⟩

set_option maxHeartbeats 2000000 in
set_option maxRecDepth 100000 in
theorem chunk1_in (l s t b off m n c : Nat) (hn : n = 8 * m) (hb : n ≤ c ∧ c ≤ 9223372036854775807 ∧ n ≤ 1000000) (J Jx : List Nat → World → Prop) (B : Nat) (hJ : AbidesFrom B J)
    (hY : ∀ pre x W, J pre W → pre.length < m → x < m → YieldAt .wide 1 Try.prog l #[.slice (some ⟨b, off + 8 * x, none⟩) 8 8] W fun e W' =>
      (e = .returned (.bool true) ∧ J (pre ++ [x]) W' ∧ KpB s t W W') ∨ (e = .returned (.bool false) ∧ Jx (pre ++ [x]) W'))
    (W : World) (h1 : W.cell? ⟨s, 0, none⟩ = some (.slice (some ⟨b, off, none⟩) n c)) (h2 : W.cell? ⟨t, 0, none⟩ = some (.int .i64 8)) (h0 : J [] W) :
    CallsIn .wide 2 Try.prog 86 #[.func (.yield l) #[] #[], .pointer (some ⟨s, 0, none⟩), .pointer (some ⟨t, 0, none⟩)] W fun e W' => (∃ v, e = .returned v) ∧
      ((∃ ys, ys = List.range m ∧ J ys W') ∨ (∃ pre, (∃ k, k ≤ m ∧ pre = List.range k) ∧ Jx pre W')) := by
  refine callsIn_of_wp Try.func86 rfl trivial ?_ rfl
  simp only [Try.ntmps86, List.size_toArray, List.length_cons, List.length_nil, Nat.reduceAdd, Nat.reduceSub, Array.replicate_succ, Array.replicate_zero, List.push_toArray, List.append_toArray, List.nil_append, List.cons_append]
  gi_wp2
  gi_loopw [4] (fun i wr => ∃ j q : Nat, j ≤ m ∧ q = 8 * j ∧ i = .int .i64 q ∧ J (List.range j) wr ∧ wr.cell? ⟨s, 0, none⟩ = some (.slice (some ⟨b, off, none⟩) n c) ∧ wr.cell? ⟨t, 0, none⟩ = some (.int .i64 8))
    (fun i _ => n - (intOf i).toNat)
  case atStart => exact ⟨0, 0, Nat.zero_le _, rfl, rfl, h0, h1, h2⟩
  case round =>
    clear h1 h2 h0
    obtain ⟨j, q, hj, hq, rfl, hJs, h1, h2⟩ := hrel
    by_cases hlt : j < m
    · have q1 : q + 8 ≤ n := by omega
      have q2 : (q : Int) < n := by omega
      have q3 : q ≤ n := by omega
      have q4 : q ≤ c := by omega
      have s1 : IntKind.i64.wrap ((q : Int) + 8) = (q : Int) + 8 := IntWalk.i64_in _ (by omega)
      have s2 : min 8 (((n - q : Nat)) : Int) = 8 := by omega
      have s3 : ((q : Int) + 8).toNat - q = 8 := by omega
      have hJd : ∀ N, J (List.range j) (wr.drewN N) := fun N => hJ _ _ _ none hJs ⟨rfl, rfl, rfl, Nat.le_refl _, fun _ _ _ => rfl⟩ (fun r e => by cases e)
      have hYd := fun N => hY _ j (wr.drewN N) (hJd N) (by simpa using hlt) hlt
      rw [← hq] at hYd
      have Hn := Lib.hid hn
      have Hq := Lib.hid hq
      clear hn hq
      gi_wp2
      gi_quiet_th (fail)
      obtain ⟨fn, tmps, assign, body, hy, hR⟩ := hYd nq
      gi_wp2
      refine hR.mono ?_
      rintro e W3 (⟨rfl, hJ3, hk3⟩ | ⟨rfl, hJx3⟩)
      · have h1' := hk3 s _ (.inl rfl) h1
        have h2' := hk3 t _ (.inr rfl) h2
        gi_wp2
        go_roundw
        case rel => exact ⟨j + 1, q + 8, by omega, by have := Hq.out; omega, by go_num, by rw [List.range_succ]; exact hJ3, h1', h2'⟩
        case measure => simp [intOf]; omega
      · gi_wp2
        refine bodyPost_ret (results_none rfl _ _ _) rfl ?_
        exact ⟨⟨_, rfl⟩, .inr ⟨_, ⟨j + 1, by omega, List.range_succ.symm⟩, hJx3⟩⟩
    · obtain rfl : j = m := by omega
      have q2 : ¬ ((q : Int) < n) := by omega
      have Hn := Lib.hid hn
      have Hq := Lib.hid hq
      clear hn hq
      gi_wp2
      go_end0
      exact ⟨⟨_, rfl⟩, .inl hJs⟩
end Go.Proofs.Ytlicndonhmcmmaa
