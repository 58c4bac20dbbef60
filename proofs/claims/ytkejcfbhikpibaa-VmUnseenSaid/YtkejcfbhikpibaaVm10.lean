import Derived.Test.YtkejcfbhikpibaaVm9
/- vm: a run. -/
namespace Go.Proofs.Ytkejcfbhikpibaa
open Go.RowKit
set_option linter.unusedVariables false
set_option linter.unusedSimpArgs false

theorem wrap_u32 (x : Int) : U32 (IntKind.u32.wrap x) := by
  have e : IntKind.u32.wrap x = x % 4294967296 := IntKind.wrap_u32 x
  rw [e]
  unfold U32
  omega
theorem bits_u32 (o : BinOp) (a b : Int) : U32 (bits o .u32 a b) := by
  unfold bits
  exact wrap_u32 _
theorem doE_u32 (k : Nat) (a b : Int) (ha : U32 a) (hb : U32 b) : U32 (doE k a b) := by
  have hdiv : ∀ m : Int, 1 ≤ m → U32 (a / m) := fun m hm => ⟨Int.ediv_nonneg ha.1 (by omega), Int.lt_of_le_of_lt (Int.ediv_le_self _ ha.1) ha.2⟩
  unfold doE
  split
  · exact wrap_u32 _
  · exact wrap_u32 _
  · exact wrap_u32 _
  · exact hdiv _ (by omega)
  · exact bits_u32 _ _ _
  · exact bits_u32 _ _ _
  · exact wrap_u32 _
  · exact hdiv _ (Int.pow_pos (by decide))
  · exact bits_u32 _ _ _
  · exact wrap_u32 _
theorem word_u32 (d : Dat) (hd : d.ok) (x : Int) : U32 (d.word x) := by
  unfold Dat.word
  split
  · exact wordAt_u32 d hd _
  · exact ⟨by decide, by decide⟩
theorem getD_set_u32 (l : List Int) (hl : ∀ k, U32 (l.getD k 0)) (i : Nat) (v : Int) (hv : U32 v) (k : Nat) : U32 ((l.set i v).getD k 0) := by
  have := hl k
  rw [List.getD_eq_getElem?_getD, List.getElem?_set]
  rw [List.getD_eq_getElem?_getD] at this
  split
  · split
    · exact hv
    · exact ⟨by decide, by decide⟩
  · exact this
theorem step_ok (d : Dat) (hd : d.ok) (i : Ins) (hi : i.ok) (s : Vm) (h : s.ok) : (stepE d i s).1.ok := by
  have hA : ∀ v, U32 v → ({ s with a := v } : Vm).ok := fun v hv => ⟨hv, h.x, h.len, h.cs, h.told⟩
  have hX : ∀ v, U32 v → ({ s with x := v } : Vm).ok := fun v hv => ⟨h.a, hv, h.len, h.cs, h.told⟩
  have hO : ∀ v, ({ s with over := v } : Vm).ok := fun v => ⟨h.a, h.x, h.len, h.cs, h.told⟩
  have hk : U32 i.k := hi.2.2.2
  have h64 : U32 64 := ⟨by decide, by decide⟩
  unfold stepE
  split
  · unfold loadE
    (repeat' split) <;> first | exact h | exact hA _ h64 | exact hX _ h64 | exact hA _ hk | exact hX _ hk | exact hA _ (h.cs _) | exact hX _ (h.cs _) | exact hA _ (word_u32 d hd _)
  split
  · split
    · refine ⟨h.a, h.x, by simp [h.len], fun k => getD_set_u32 _ h.cs _ _ ?_ k, h.told⟩
      split
      · exact h.x
      · exact h.a
    · exact h
  split
  · unfold numberE
    (repeat' split) <;> first | exact h | exact hO _ | exact hA _ (doE_u32 _ _ _ h.a (second_u32 i hi s h))
  split
  · exact h
  split
  · refine ⟨h.a, h.x, h.len, h.cs, ?_⟩
    show U32 (if i.code = 22 then s.a else i.k)
    split
    · exact h.a
    · exact hk
  split
  · show Vm.ok (if i.code = 7 then { s with x := s.a } else { s with a := s.x })
    split
    · exact hX _ h.a
    · exact hA _ h.x
  · exact h
theorem step_skip (d : Dat) (i : Ins) (hi : i.ok) (s : Vm) : U32 (stepE d i s).2.1 := by
  have h0 : U32 0 := ⟨by decide, by decide⟩
  have hk : U32 i.k := hi.2.2.2
  have hj : U32 i.jt := ⟨hi.2.1.1, by have := hi.2.1.2; omega⟩
  have hf : U32 i.jf := ⟨hi.2.2.1.1, by have := hi.2.2.1.2; omega⟩
  unfold stepE
  (repeat' split) <;> try exact h0
  unfold jumpE
  (repeat' split) <;> first | exact hk | exact hj | exact hf

/-- What a run comes to. -/
structure Res where
  ans : Int
  steps : Nat
  tr : List Nat
  err : Int
def behE (c : Int) : Int := if clsOf c = 4 then 42 else 46
/-- A run from a place on. -/
def runE (d : Dat) (ps : List Ins) : Nat → Nat → Vm → Int → List Nat → Res
  | 0, _, _, _, tr => ⟨0, tr.length, tr, 0⟩
  | f + 1, at_, s, beh, tr =>
    if s.over = true then ⟨s.told, tr.length, tr, 0⟩
    else if at_ < ps.length then
      if (stepE d (ps.getD at_ zeroI) s).2.2 = 0 then runE d ps f (at_ + (1 + (stepE d (ps.getD at_ zeroI) s).2.1.toNat)) (stepE d (ps.getD at_ zeroI) s).1 (behE (ps.getD at_ zeroI).code) (tr ++ [at_])
      else ⟨0, tr.length, tr ++ [at_], (stepE d (ps.getD at_ zeroI) s).2.2⟩
    else ⟨0, tr.length, tr, beh⟩
def vm0 : Vm := ⟨0, 0, List.replicate 16 0, 0, false⟩
theorem vm0_ok : vm0.ok := by
  refine ⟨⟨by decide, by decide⟩, ⟨by decide, by decide⟩, rfl, fun k => ?_, ⟨by decide, by decide⟩⟩
  have : (List.replicate 16 (0 : Int)).getD k 0 = 0 := by
    rw [List.getD_eq_getElem?_getD, List.getElem?_replicate]
    split <;> rfl
  show U32 ((List.replicate 16 (0 : Int)).getD k 0)
  rw [this]
  exact ⟨by decide, by decide⟩
def runR (d : Dat) (ps : List Ins) : Res := runE d ps (ps.length + 2) 0 vm0 46 []
end Go.Proofs.Ytkejcfbhikpibaa
