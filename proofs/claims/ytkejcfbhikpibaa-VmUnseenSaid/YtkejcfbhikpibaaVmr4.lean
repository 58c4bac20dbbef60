import Derived.Test.YtkejcfbhikpibaaVmr3
/- The document's machine: do. -/
namespace Go.Proofs.Ytkejcfbhikpibaa
open Go.RowKit Go.ChangeShapes Go.WideShapes
set_option linter.unusedVariables false
set_option linter.unusedSimpArgs false

def numC : List (Int × Bool × Nat) := [(4, false, 0), (12, true, 0), (20, false, 1), (28, true, 1), (36, false, 2), (44, true, 2), (52, false, 3), (60, true, 3), (68, false, 4), (76, true, 4), (84, false, 5), (92, true, 5), (100, false, 6), (108, true, 6), (116, false, 7), (124, true, 7), (164, false, 8), (172, true, 8), (132, false, 9)]
def jmpC : List (Int × Bool × Nat) := [(21, false, 10), (29, true, 10), (37, false, 11), (45, true, 11), (53, false, 12), (61, true, 12), (69, false, 13), (77, true, 13)]
theorem ent_num : ∀ e ∈ ents, (e.cls = 3 → ∃ r ∈ numC, e.code = r.1 ∧ takesX e.code = r.2.1 ∧ byI e.code = r.2.2) ∧ (e.cls = 4 → e.code = 5 ∨ ∃ r ∈ jmpC, e.code = r.1 ∧ takesX e.code = r.2.1 ∧ byI e.code = r.2.2) := by
  intro e he
  simp only [ents, List.mem_cons, List.not_mem_nil, or_false] at he
  rcases he with rfl | rfl | rfl | rfl | rfl | rfl | rfl | rfl | rfl | rfl | rfl | rfl | rfl | rfl | rfl | rfl | rfl | rfl | rfl | rfl | rfl | rfl | rfl | rfl | rfl | rfl | rfl | rfl | rfl | rfl | rfl | rfl | rfl | rfl | rfl | rfl | rfl | rfl | rfl | rfl | rfl
  all_goals exact ⟨by decide +kernel, by decide +kernel⟩
theorem class_num {c : Int} (h : clsOf c = 3) : ∃ r ∈ numC, c = r.1 ∧ takesX c = r.2.1 ∧ byI c = r.2.2 := by
  rcases class_of c with ⟨k, _⟩ | ⟨e, he, rfl, k, _⟩
  · omega
  · exact (ent_num e he).1 (k.symm.trans h)
theorem class_jmp {c : Int} (h : clsOf c = 4) : c = 5 ∨ ∃ r ∈ jmpC, c = r.1 ∧ takesX c = r.2.1 ∧ byI c = r.2.2 := by
  rcases class_of c with ⟨k, _⟩ | ⟨e, he, rfl, k, _⟩
  · omega
  · exact (ent_num e he).2 (k.symm.trans h)

theorem rnumber_any (i : Ins) (hi : i.ok) (hc : clsOf i.code = 3) (g : Nat) (s : Vm) (ho : s.ok) (W : World) (B : RB W g s) : Calls Try.prog 54 #[.pointer (some ⟨g, 0, none⟩), i.val] W fun e w' => RfP g W (numberE i s) e w' := by
  obtain ⟨r, hr, h1, hx, hb⟩ := class_num hc
  obtain ⟨co, jt, jf, k⟩ := i
  have hk : U32 k := hi.2.2.2
  have ha := ho.a
  have hX := ho.x
  unfold Ins.val Ins.cells
  dsimp only at *
  simp only [numC, List.mem_cons, List.not_mem_nil, or_false] at hr
  rcases hr with rfl | rfl | rfl | rfl | rfl | rfl | rfl | rfl | rfl | rfl | rfl | rfl | rfl | rfl | rfl | rfl | rfl | rfl | rfl
  all_goals (dsimp only at h1 hx hb; subst h1)
  · have e : numberE ⟨4, jt, jf, k⟩ s = ({ s with a := (IntKind.u32.wrap (s.a + k)) }, 0) := by
      simp [numberE, secondE, hx, hb, doE]
    rw [e]
    exact rnum_4 jt jf k g s W B
  · have e : numberE ⟨12, jt, jf, k⟩ s = ({ s with a := (IntKind.u32.wrap (s.a + s.x)) }, 0) := by
      simp [numberE, secondE, hx, hb, doE]
    rw [e]
    exact rnum_12 jt jf k g s W B
  · have e : numberE ⟨20, jt, jf, k⟩ s = ({ s with a := (IntKind.u32.wrap (s.a - k)) }, 0) := by
      simp [numberE, secondE, hx, hb, doE]
    rw [e]
    exact rnum_20 jt jf k g s W B
  · have e : numberE ⟨28, jt, jf, k⟩ s = ({ s with a := (IntKind.u32.wrap (s.a - s.x)) }, 0) := by
      simp [numberE, secondE, hx, hb, doE]
    rw [e]
    exact rnum_28 jt jf k g s W B
  · have e : numberE ⟨36, jt, jf, k⟩ s = ({ s with a := (IntKind.u32.wrap (s.a * k)) }, 0) := by
      simp [numberE, secondE, hx, hb, doE]
    rw [e]
    exact rnum_36 jt jf k g s W B
  · have e : numberE ⟨44, jt, jf, k⟩ s = ({ s with a := (IntKind.u32.wrap (s.a * s.x)) }, 0) := by
      simp [numberE, secondE, hx, hb, doE]
    rw [e]
    exact rnum_44 jt jf k g s W B
  · by_cases h0 : k = 0
    · have e : numberE ⟨52, jt, jf, k⟩ s = (s, 44) := by simp [numberE, secondE, hx, h0]
      rw [e]
      exact rnum_52_no jt jf k h0 g s W B
    · have hm : max k 1 = k := by have := hk.1; omega
      have e : numberE ⟨52, jt, jf, k⟩ s = ({ s with a := s.a / k }, 0) := by simp [numberE, secondE, hx, hb, doE, h0, hm]
      rw [e]
      exact rnum_52_yes jt jf k (by have := hk.1; omega) g s ha W B
  · by_cases h0 : s.x = 0
    · have e : numberE ⟨60, jt, jf, k⟩ s = ({ s with over := true }, 0) := by simp [numberE, secondE, hx, h0]
      rw [e]
      exact rnum_60_no jt jf k g s h0 W B
    · have hm : max s.x 1 = s.x := by have := hX.1; omega
      have e : numberE ⟨60, jt, jf, k⟩ s = ({ s with a := s.a / s.x }, 0) := by simp [numberE, secondE, hx, hb, doE, h0, hm]
      rw [e]
      exact rnum_60_yes jt jf k g s (by have := hX.1; omega) ha W B
  · have e : numberE ⟨68, jt, jf, k⟩ s = ({ s with a := (bits .or .u32 s.a k) }, 0) := by
      simp [numberE, secondE, hx, hb, doE]
    rw [e]
    exact rnum_68 jt jf k g s W B
  · have e : numberE ⟨76, jt, jf, k⟩ s = ({ s with a := (bits .or .u32 s.a s.x) }, 0) := by
      simp [numberE, secondE, hx, hb, doE]
    rw [e]
    exact rnum_76 jt jf k g s W B
  · have e : numberE ⟨84, jt, jf, k⟩ s = ({ s with a := (bits .and .u32 s.a k) }, 0) := by
      simp [numberE, secondE, hx, hb, doE]
    rw [e]
    exact rnum_84 jt jf k g s W B
  · have e : numberE ⟨92, jt, jf, k⟩ s = ({ s with a := (bits .and .u32 s.a s.x) }, 0) := by
      simp [numberE, secondE, hx, hb, doE]
    rw [e]
    exact rnum_92 jt jf k g s W B
  · by_cases h0 : 31 < k
    · have e : numberE ⟨100, jt, jf, k⟩ s = (s, 45) := by simp [numberE, secondE, hx, h0]
      rw [e]
      exact rnum_100_no jt jf k h0 g s W B
    · have e : numberE ⟨100, jt, jf, k⟩ s = ({ s with a := IntKind.u32.wrap (s.a * 2 ^ (k % 32).toNat) }, 0) := by simp [numberE, secondE, hx, hb, doE, h0]
      rw [e]
      exact rnum_100_yes jt jf k g s ha hk h0 W B
  · have e : numberE ⟨108, jt, jf, k⟩ s = ({ s with a := IntKind.u32.wrap (s.a * 2 ^ (s.x % 32).toNat) }, 0) := by simp [numberE, secondE, hx, hb, doE]
    rw [e]
    exact rnum_108_yes jt jf k g s ha hX W B
  · by_cases h0 : 31 < k
    · have e : numberE ⟨116, jt, jf, k⟩ s = (s, 45) := by simp [numberE, secondE, hx, h0]
      rw [e]
      exact rnum_116_no jt jf k h0 g s W B
    · have e : numberE ⟨116, jt, jf, k⟩ s = ({ s with a := s.a / 2 ^ (k % 32).toNat }, 0) := by simp [numberE, secondE, hx, hb, doE, h0]
      rw [e]
      exact rnum_116_yes jt jf k g s ha hk h0 W B
  · have e : numberE ⟨124, jt, jf, k⟩ s = ({ s with a := s.a / 2 ^ (s.x % 32).toNat }, 0) := by simp [numberE, secondE, hx, hb, doE]
    rw [e]
    exact rnum_124_yes jt jf k g s ha hX W B
  · have e : numberE ⟨164, jt, jf, k⟩ s = ({ s with a := (bits .xor .u32 s.a k) }, 0) := by
      simp [numberE, secondE, hx, hb, doE]
    rw [e]
    exact rnum_164 jt jf k g s W B
  · have e : numberE ⟨172, jt, jf, k⟩ s = ({ s with a := (bits .xor .u32 s.a s.x) }, 0) := by
      simp [numberE, secondE, hx, hb, doE]
    rw [e]
    exact rnum_172 jt jf k g s W B
  · have e : numberE ⟨132, jt, jf, k⟩ s = ({ s with a := (IntKind.u32.wrap (-s.a)) }, 0) := by
      simp [numberE, secondE, hx, hb, doE]
    rw [e]
    exact rnum_132 jt jf k g s W B

theorem and_pos (a b : Int) : (bits .and .u32 a b != 0) = decide (0 < bits .and .u32 a b) := by
  have h0 := (bits_u32 .and a b).1
  generalize bits .and .u32 a b = x at *
  by_cases h : x = 0
  · subst h
    rfl
  · rw [decide_eq_true (by omega)]
    simpa using h
theorem rjump_any (i : Ins) (hi : i.ok) (hc : clsOf i.code = 4) (g : Nat) (s : Vm) (W : World) (B : RB W g s) : Calls Try.prog 55 #[.pointer (some ⟨g, 0, none⟩), i.val] W fun e w' => e = .returned (.int .i64 (jumpE i s)) ∧ Ext W w' := by
  obtain ⟨co, jt, jf, k⟩ := i
  have hk : U32 k := hi.2.2.2
  have hj := hi.2.1
  have hf := hi.2.2.1
  unfold Ins.val Ins.cells
  dsimp only at *
  rcases class_jmp hc with rfl | ⟨r, hr, h1, hx, hb⟩
  · exact rjump_5 jt jf k hk g W
  simp only [jmpC, List.mem_cons, List.not_mem_nil, or_false] at hr
  rcases hr with rfl | rfl | rfl | rfl | rfl | rfl | rfl | rfl
  all_goals (dsimp only at h1 hx hb; subst h1)
  · have e : jumpE ⟨21, jt, jf, k⟩ s = if (s.a == k) then jt else jf := by
      simp [jumpE, secondE, hx, hb, hoE, and_pos]
    rw [e]
    exact rjump_21 jt jf k hj hf g s W B
  · have e : jumpE ⟨29, jt, jf, k⟩ s = if (s.a == s.x) then jt else jf := by
      simp [jumpE, secondE, hx, hb, hoE, and_pos]
    rw [e]
    exact rjump_29 jt jf k hj hf g s W B
  · have e : jumpE ⟨37, jt, jf, k⟩ s = if (decide (k < s.a)) then jt else jf := by
      simp [jumpE, secondE, hx, hb, hoE, and_pos]
    rw [e]
    exact rjump_37 jt jf k hj hf g s W B
  · have e : jumpE ⟨45, jt, jf, k⟩ s = if (decide (s.x < s.a)) then jt else jf := by
      simp [jumpE, secondE, hx, hb, hoE, and_pos]
    rw [e]
    exact rjump_45 jt jf k hj hf g s W B
  · have e : jumpE ⟨53, jt, jf, k⟩ s = if (decide (k ≤ s.a)) then jt else jf := by
      simp [jumpE, secondE, hx, hb, hoE, and_pos]
    rw [e]
    exact rjump_53 jt jf k hj hf g s W B
  · have e : jumpE ⟨61, jt, jf, k⟩ s = if (decide (s.x ≤ s.a)) then jt else jf := by
      simp [jumpE, secondE, hx, hb, hoE, and_pos]
    rw [e]
    exact rjump_61 jt jf k hj hf g s W B
  · have e : jumpE ⟨69, jt, jf, k⟩ s = if (decide (0 < bits .and .u32 s.a k)) then jt else jf := by
      simp [jumpE, secondE, hx, hb, hoE, and_pos]
    rw [e]
    exact rjump_69 jt jf k hj hf g s W B
  · have e : jumpE ⟨77, jt, jf, k⟩ s = if (decide (0 < bits .and .u32 s.a s.x)) then jt else jf := by
      simp [jumpE, secondE, hx, hb, hoE, and_pos]
    rw [e]
    exact rjump_77 jt jf k hj hf g s W B

theorem rload_any (i : Ins) (hi : i.ok) (hc : clsOf i.code = 1) (g : Nat) (d : Dat) (hd : d.ok) (s : Vm) (W : World) (B : RB W g s) : Calls Try.prog 53 #[.pointer (some ⟨g, 0, none⟩), i.val, d.val] W fun e w' => RfP g W (loadE d i s) e w' := by
  obtain ⟨co, jt, jf, k⟩ := i
  have hk : U32 k := hi.2.2.2
  unfold Ins.val Ins.cells
  dsimp only at *
  rcases class_load hc with rfl | rfl | rfl | rfl | rfl | rfl | rfl
  · exact rload_32 jt jf k hk g d hd s W B
  · exact rload_128 jt jf k g _ _ _ _ _ _ _ _ _ s W B
  · exact rload_129 jt jf k g _ _ _ _ _ _ _ _ _ s W B
  · exact rload_0 jt jf k g _ _ _ _ _ _ _ _ _ s W B
  · exact rload_1 jt jf k g _ _ _ _ _ _ _ _ _ s W B
  · by_cases h : k < 16
    · obtain ⟨n, rfl⟩ : ∃ n : Nat, k = n := ⟨k.toNat, by have := hk.1; omega⟩
      rw [show loadE d ⟨96, jt, jf, n⟩ s = ({ s with a := s.cs.getD n 0 }, 0) from by simp [loadE, h]]
      exact rload_96_yes jt jf n (by omega) g _ _ _ _ _ _ _ _ _ s W B
    · rw [show loadE d ⟨96, jt, jf, k⟩ s = (s, 43) from by simp [loadE, h]]
      exact rload_96_no jt jf k (by omega) g _ _ _ _ _ _ _ _ _ s W B
  · by_cases h : k < 16
    · obtain ⟨n, rfl⟩ : ∃ n : Nat, k = n := ⟨k.toNat, by have := hk.1; omega⟩
      rw [show loadE d ⟨97, jt, jf, n⟩ s = ({ s with x := s.cs.getD n 0 }, 0) from by simp [loadE, h]]
      exact rload_97_yes jt jf n (by omega) g _ _ _ _ _ _ _ _ _ s W B
    · rw [show loadE d ⟨97, jt, jf, k⟩ s = (s, 43) from by simp [loadE, h]]
      exact rload_97_no jt jf k (by omega) g _ _ _ _ _ _ _ _ _ s W B
def storeE (i : Ins) (s : Vm) : Vm × Int := if i.k < 16 then ({ s with cs := s.cs.set i.k.toNat (if i.code = 3 then s.x else s.a) }, 0) else (s, 43)
theorem rstore_any (i : Ins) (hi : i.ok) (hc : clsOf i.code = 2) (g : Nat) (d : Dat) (s : Vm) (W : World) (B : RB W g s) : Calls Try.prog 53 #[.pointer (some ⟨g, 0, none⟩), i.val, d.val] W fun e w' => RfP g W (storeE i s) e w' := by
  obtain ⟨co, jt, jf, k⟩ := i
  have hk : U32 k := hi.2.2.2
  unfold Ins.val Ins.cells storeE
  dsimp only at *
  rcases class_store hc with rfl | rfl
  · by_cases h : k < 16
    · obtain ⟨n, rfl⟩ : ∃ n : Nat, k = n := ⟨k.toNat, by have := hk.1; omega⟩
      rw [if_pos h, if_neg (by decide)]
      exact rload_2_yes jt jf n (by omega) g _ _ _ _ _ _ _ _ _ s W B
    · rw [if_neg h]
      exact rload_2_no jt jf k (by omega) g _ _ _ _ _ _ _ _ _ s W B
  · by_cases h : k < 16
    · obtain ⟨n, rfl⟩ : ∃ n : Nat, k = n := ⟨k.toNat, by have := hk.1; omega⟩
      rw [if_pos h, if_pos rfl]
      exact rload_3_yes jt jf n (by omega) g _ _ _ _ _ _ _ _ _ s W B
    · rw [if_neg h]
      exact rload_3_no jt jf k (by omega) g _ _ _ _ _ _ _ _ _ s W B
def moveE (i : Ins) (s : Vm) : Vm := if i.code = 7 then { s with x := s.a } else { s with a := s.x }
theorem rmove_any (i : Ins) (hi : i.ok) (hc : clsOf i.code = 6) (g : Nat) (d : Dat) (s : Vm) (W : World) (B : RB W g s) : Calls Try.prog 53 #[.pointer (some ⟨g, 0, none⟩), i.val, d.val] W fun e w' => RfP g W (moveE i s, 0) e w' := by
  obtain ⟨co, jt, jf, k⟩ := i
  unfold Ins.val Ins.cells moveE
  dsimp only at *
  rcases class_move hc with rfl | rfl
  · rw [if_pos rfl]
    exact rload_7 jt jf k g _ _ _ _ _ _ _ _ _ s W B
  · rw [if_neg (by decide)]
    exact rload_135 jt jf k g _ _ _ _ _ _ _ _ _ s W B
end Go.Proofs.Ytkejcfbhikpibaa
