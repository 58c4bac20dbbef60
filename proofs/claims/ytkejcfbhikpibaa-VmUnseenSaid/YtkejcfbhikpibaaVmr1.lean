import Derived.Test.YtkejcfbhikpibaaVm10
import Derived.RegionTactic
import Derived.ChangeAlike
/- The document's machine: in memory; load. -/
namespace Go.Proofs.Ytkejcfbhikpibaa
open Go.RowKit Go.ChangeShapes Go.WideShapes
set_option linter.unusedVariables false
set_option linter.unusedSimpArgs false

def rcl (s : Vm) : List Value := .int .u32 s.a :: .int .u32 s.x :: .int .u32 s.told :: (nums .u32 s.cs ++ [.bool s.over])
/-- Block g is the document's machine. -/
structure RB (W : World) (g : Nat) (s : Vm) : Prop where
  blk : Blk W g 62 (rcl s).toArray
  len : s.cs.length = 16
section
variable {W W' : World} {g : Nat} {s : Vm}
theorem RB.ext (h : RB W g s) (e : Ext W W') : RB W' g s := ⟨h.blk.ext e, h.len⟩
theorem RB.at_ (h : RB W g s) (i : Nat) : W.cell? ⟨g, i, none⟩ = (rcl s)[i]? := by rw [h.blk.cell]; simp
theorem RB.a (h : RB W g s) : W.cell? ⟨g, 0, none⟩ = some (.int .u32 s.a) := h.at_ 0
theorem RB.x (h : RB W g s) : W.cell? ⟨g, 1, none⟩ = some (.int .u32 s.x) := h.at_ 1
theorem RB.told (h : RB W g s) : W.cell? ⟨g, 2, none⟩ = some (.int .u32 s.told) := h.at_ 2
theorem RB.c (h : RB W g s) {k : Nat} (hk : k < 16) : W.cell? ⟨g, 3 + k, none⟩ = some (.int .u32 (s.cs.getD k 0)) := by
  have hl := h.len
  rw [h.at_, show 3 + k = k + 1 + 1 + 1 from by omega]
  simp only [rcl, List.getElem?_cons_succ]
  rw [List.getElem?_append_left (by simp [nums]; omega)]
  simp [nums, List.getD_eq_getElem?_getD, List.getElem?_eq_getElem (show k < s.cs.length by omega)]
theorem RB.over (h : RB W g s) : W.cell? ⟨g, 19, none⟩ = some (.bool s.over) := by
  have hl := h.len
  rw [h.at_, show 19 = 16 + 1 + 1 + 1 from rfl]
  simp only [rcl, List.getElem?_cons_succ]
  rw [List.getElem?_append_right (by simp [nums]; omega)]
  simp [nums, hl]
theorem RB.fz (h : RB W g s) (i : Nat) : W.frozen? ⟨g, i, none⟩ = false := h.blk.frozen i
theorem RB.set_ (h : RB W g s) (i : Nat) (u : Value) {t : Vm} (ht : t.cs.length = 16) (e : (rcl s).set i u = rcl t) : RB (W.setCell ⟨g, i, none⟩ u) g t := by
  refine ⟨?_, ht⟩
  have := h.blk.set_ i u
  rwa [List.setIfInBounds_toArray, e] at this
theorem RB.setA (h : RB W g s) (v : Int) : RB (W.setCell ⟨g, 0, none⟩ (.int .u32 v)) g { s with a := v } := h.set_ _ _ h.len rfl
theorem RB.setX (h : RB W g s) (v : Int) : RB (W.setCell ⟨g, 1, none⟩ (.int .u32 v)) g { s with x := v } := h.set_ _ _ h.len rfl
theorem RB.setT (h : RB W g s) (v : Int) : RB (W.setCell ⟨g, 2, none⟩ (.int .u32 v)) g { s with told := v } := h.set_ _ _ h.len rfl
theorem RB.setC (h : RB W g s) {k : Nat} (hk : k < 16) (v : Int) : RB (W.setCell ⟨g, 3 + k, none⟩ (.int .u32 v)) g { s with cs := s.cs.set k v } := by
  have hl := h.len
  refine h.set_ _ _ (by simp [hl]) ?_
  rw [show 3 + k = k + 1 + 1 + 1 from by omega]
  simp only [rcl, List.set_cons_succ]
  rw [List.set_append_left _ _ (by simp [nums]; omega)]
  simp [nums, List.map_set]
theorem RB.setO (h : RB W g s) (v : Bool) : RB (W.setCell ⟨g, 19, none⟩ (.bool v)) g { s with over := v } := by
  have hl := h.len
  refine h.set_ _ _ hl ?_
  rw [show 19 = 16 + 1 + 1 + 1 from rfl]
  simp only [rcl, List.set_cons_succ]
  rw [List.set_append_right _ _ (by simp [nums]; omega)]
  simp [nums, hl]
end
theorem RB.drew {W : World} {g : Nat} {s : Vm} (h : RB W g s) : RB W.drew g s := ⟨h.blk.drew, h.len⟩
theorem Upd.drew {g : Nat} {a b : World} (h : Upd g a b) : Upd g a b.drew := ⟨h.os, h.tape, h.output, h.size, h.block⟩
/-- How a function of the document's machine ends. -/
def RfP (g : Nat) (W : World) (r : Vm × Int) (e : Ending) (w' : World) : Prop := e = .returned (.int .i64 r.2) ∧ Upd g W w' ∧ RB w' g r.1

theorem rload_128 (jt jf k : Int) (g : Nat) (nr arch ip a0 a1 a2 a3 a4 a5 : Int) (s : Vm) (W : World) (B : RB W g s) : Calls Try.prog 53 #[.pointer (some ⟨g, 0, none⟩), .agg #[.int .u16 128, .int .u8 jt, .int .u8 jf, .int .u32 k], datV nr arch ip a0 a1 a2 a3 a4 a5] W fun e w' => RfP g W ({ s with a := 64 }, 0) e w' := by
  have hx := ((Ext.refl W).alloc (.cells #[.int .u16 128, .int .u8 jt, .int .u8 jf, .int .u32 k] 32)).alloc (.cells #[.int .u32 nr, .int .u32 arch, .int .u64 ip, .int .u64 a0, .int .u64 a1, .int .u64 a2, .int .u64 a3, .int .u64 a4, .int .u64 a5] 36)
  have B1 := B.ext hx
  clear B
  have z := B1.fz 0
  have z1 := B1.a
  have z2 := B1.x
  have hu := (Upd.of_ext (g := g) hx).set 0 (.int .u32 64)
  have B2 := B1.setA 64
  clear B1 hx
  go_enter Try.func53, Try.ntmps53
  go_wp2
  go_ret
  exact ⟨rfl, hu, B2⟩
theorem rload_129 (jt jf k : Int) (g : Nat) (nr arch ip a0 a1 a2 a3 a4 a5 : Int) (s : Vm) (W : World) (B : RB W g s) : Calls Try.prog 53 #[.pointer (some ⟨g, 0, none⟩), .agg #[.int .u16 129, .int .u8 jt, .int .u8 jf, .int .u32 k], datV nr arch ip a0 a1 a2 a3 a4 a5] W fun e w' => RfP g W ({ s with x := 64 }, 0) e w' := by
  have hx := ((Ext.refl W).alloc (.cells #[.int .u16 129, .int .u8 jt, .int .u8 jf, .int .u32 k] 32)).alloc (.cells #[.int .u32 nr, .int .u32 arch, .int .u64 ip, .int .u64 a0, .int .u64 a1, .int .u64 a2, .int .u64 a3, .int .u64 a4, .int .u64 a5] 36)
  have B1 := B.ext hx
  clear B
  have z := B1.fz 1
  have z1 := B1.a
  have z2 := B1.x
  have hu := (Upd.of_ext (g := g) hx).set 1 (.int .u32 64)
  have B2 := B1.setX 64
  clear B1 hx
  go_enter Try.func53, Try.ntmps53
  go_wp2
  go_ret
  exact ⟨rfl, hu, B2⟩
theorem rload_0 (jt jf k : Int) (g : Nat) (nr arch ip a0 a1 a2 a3 a4 a5 : Int) (s : Vm) (W : World) (B : RB W g s) : Calls Try.prog 53 #[.pointer (some ⟨g, 0, none⟩), .agg #[.int .u16 0, .int .u8 jt, .int .u8 jf, .int .u32 k], datV nr arch ip a0 a1 a2 a3 a4 a5] W fun e w' => RfP g W ({ s with a := k }, 0) e w' := by
  have hx := ((Ext.refl W).alloc (.cells #[.int .u16 0, .int .u8 jt, .int .u8 jf, .int .u32 k] 32)).alloc (.cells #[.int .u32 nr, .int .u32 arch, .int .u64 ip, .int .u64 a0, .int .u64 a1, .int .u64 a2, .int .u64 a3, .int .u64 a4, .int .u64 a5] 36)
  have B1 := B.ext hx
  clear B
  have z := B1.fz 0
  have z1 := B1.a
  have z2 := B1.x
  have hu := (Upd.of_ext (g := g) hx).set 0 (.int .u32 k)
  have B2 := B1.setA k
  clear B1 hx
  go_enter Try.func53, Try.ntmps53
  go_wp2
  go_ret
  exact ⟨rfl, hu, B2⟩
theorem rload_1 (jt jf k : Int) (g : Nat) (nr arch ip a0 a1 a2 a3 a4 a5 : Int) (s : Vm) (W : World) (B : RB W g s) : Calls Try.prog 53 #[.pointer (some ⟨g, 0, none⟩), .agg #[.int .u16 1, .int .u8 jt, .int .u8 jf, .int .u32 k], datV nr arch ip a0 a1 a2 a3 a4 a5] W fun e w' => RfP g W ({ s with x := k }, 0) e w' := by
  have hx := ((Ext.refl W).alloc (.cells #[.int .u16 1, .int .u8 jt, .int .u8 jf, .int .u32 k] 32)).alloc (.cells #[.int .u32 nr, .int .u32 arch, .int .u64 ip, .int .u64 a0, .int .u64 a1, .int .u64 a2, .int .u64 a3, .int .u64 a4, .int .u64 a5] 36)
  have B1 := B.ext hx
  clear B
  have z := B1.fz 1
  have z1 := B1.a
  have z2 := B1.x
  have hu := (Upd.of_ext (g := g) hx).set 1 (.int .u32 k)
  have B2 := B1.setX k
  clear B1 hx
  go_enter Try.func53, Try.ntmps53
  go_wp2
  go_ret
  exact ⟨rfl, hu, B2⟩
theorem rload_7 (jt jf k : Int) (g : Nat) (nr arch ip a0 a1 a2 a3 a4 a5 : Int) (s : Vm) (W : World) (B : RB W g s) : Calls Try.prog 53 #[.pointer (some ⟨g, 0, none⟩), .agg #[.int .u16 7, .int .u8 jt, .int .u8 jf, .int .u32 k], datV nr arch ip a0 a1 a2 a3 a4 a5] W fun e w' => RfP g W ({ s with x := s.a }, 0) e w' := by
  have hx := ((Ext.refl W).alloc (.cells #[.int .u16 7, .int .u8 jt, .int .u8 jf, .int .u32 k] 32)).alloc (.cells #[.int .u32 nr, .int .u32 arch, .int .u64 ip, .int .u64 a0, .int .u64 a1, .int .u64 a2, .int .u64 a3, .int .u64 a4, .int .u64 a5] 36)
  have B1 := B.ext hx
  clear B
  have z := B1.fz 1
  have z1 := B1.a
  have z2 := B1.x
  have hu := (Upd.of_ext (g := g) hx).set 1 (.int .u32 s.a)
  have B2 := B1.setX s.a
  clear B1 hx
  go_enter Try.func53, Try.ntmps53
  go_wp2
  go_ret
  exact ⟨rfl, hu, B2⟩
theorem rload_135 (jt jf k : Int) (g : Nat) (nr arch ip a0 a1 a2 a3 a4 a5 : Int) (s : Vm) (W : World) (B : RB W g s) : Calls Try.prog 53 #[.pointer (some ⟨g, 0, none⟩), .agg #[.int .u16 135, .int .u8 jt, .int .u8 jf, .int .u32 k], datV nr arch ip a0 a1 a2 a3 a4 a5] W fun e w' => RfP g W ({ s with a := s.x }, 0) e w' := by
  have hx := ((Ext.refl W).alloc (.cells #[.int .u16 135, .int .u8 jt, .int .u8 jf, .int .u32 k] 32)).alloc (.cells #[.int .u32 nr, .int .u32 arch, .int .u64 ip, .int .u64 a0, .int .u64 a1, .int .u64 a2, .int .u64 a3, .int .u64 a4, .int .u64 a5] 36)
  have B1 := B.ext hx
  clear B
  have z := B1.fz 0
  have z1 := B1.a
  have z2 := B1.x
  have hu := (Upd.of_ext (g := g) hx).set 0 (.int .u32 s.x)
  have B2 := B1.setA s.x
  clear B1 hx
  go_enter Try.func53, Try.ntmps53
  go_wp2
  go_ret
  exact ⟨rfl, hu, B2⟩
theorem rload_96_no (jt jf k : Int) (hk : 15 < k) (g : Nat) (nr arch ip a0 a1 a2 a3 a4 a5 : Int) (s : Vm) (W : World) (B : RB W g s) : Calls Try.prog 53 #[.pointer (some ⟨g, 0, none⟩), .agg #[.int .u16 96, .int .u8 jt, .int .u8 jf, .int .u32 k], datV nr arch ip a0 a1 a2 a3 a4 a5] W fun e w' => RfP g W (s, 43) e w' := by
  have hx := ((Ext.refl W).alloc (.cells #[.int .u16 96, .int .u8 jt, .int .u8 jf, .int .u32 k] 32)).alloc (.cells #[.int .u32 nr, .int .u32 arch, .int .u64 ip, .int .u64 a0, .int .u64 a1, .int .u64 a2, .int .u64 a3, .int .u64 a4, .int .u64 a5] 36)
  have B1 := B.ext hx
  clear B
  go_enter Try.func53, Try.ntmps53
  go_wp2
  go_ret
  exact ⟨rfl, .of_ext hx, B1⟩
theorem rload_97_no (jt jf k : Int) (hk : 15 < k) (g : Nat) (nr arch ip a0 a1 a2 a3 a4 a5 : Int) (s : Vm) (W : World) (B : RB W g s) : Calls Try.prog 53 #[.pointer (some ⟨g, 0, none⟩), .agg #[.int .u16 97, .int .u8 jt, .int .u8 jf, .int .u32 k], datV nr arch ip a0 a1 a2 a3 a4 a5] W fun e w' => RfP g W (s, 43) e w' := by
  have hx := ((Ext.refl W).alloc (.cells #[.int .u16 97, .int .u8 jt, .int .u8 jf, .int .u32 k] 32)).alloc (.cells #[.int .u32 nr, .int .u32 arch, .int .u64 ip, .int .u64 a0, .int .u64 a1, .int .u64 a2, .int .u64 a3, .int .u64 a4, .int .u64 a5] 36)
  have B1 := B.ext hx
  clear B
  go_enter Try.func53, Try.ntmps53
  go_wp2
  go_ret
  exact ⟨rfl, .of_ext hx, B1⟩
theorem rload_2_no (jt jf k : Int) (hk : 15 < k) (g : Nat) (nr arch ip a0 a1 a2 a3 a4 a5 : Int) (s : Vm) (W : World) (B : RB W g s) : Calls Try.prog 53 #[.pointer (some ⟨g, 0, none⟩), .agg #[.int .u16 2, .int .u8 jt, .int .u8 jf, .int .u32 k], datV nr arch ip a0 a1 a2 a3 a4 a5] W fun e w' => RfP g W (s, 43) e w' := by
  have hx := ((Ext.refl W).alloc (.cells #[.int .u16 2, .int .u8 jt, .int .u8 jf, .int .u32 k] 32)).alloc (.cells #[.int .u32 nr, .int .u32 arch, .int .u64 ip, .int .u64 a0, .int .u64 a1, .int .u64 a2, .int .u64 a3, .int .u64 a4, .int .u64 a5] 36)
  have B1 := B.ext hx
  clear B
  go_enter Try.func53, Try.ntmps53
  go_wp2
  go_ret
  exact ⟨rfl, .of_ext hx, B1⟩
theorem rload_3_no (jt jf k : Int) (hk : 15 < k) (g : Nat) (nr arch ip a0 a1 a2 a3 a4 a5 : Int) (s : Vm) (W : World) (B : RB W g s) : Calls Try.prog 53 #[.pointer (some ⟨g, 0, none⟩), .agg #[.int .u16 3, .int .u8 jt, .int .u8 jf, .int .u32 k], datV nr arch ip a0 a1 a2 a3 a4 a5] W fun e w' => RfP g W (s, 43) e w' := by
  have hx := ((Ext.refl W).alloc (.cells #[.int .u16 3, .int .u8 jt, .int .u8 jf, .int .u32 k] 32)).alloc (.cells #[.int .u32 nr, .int .u32 arch, .int .u64 ip, .int .u64 a0, .int .u64 a1, .int .u64 a2, .int .u64 a3, .int .u64 a4, .int .u64 a5] 36)
  have B1 := B.ext hx
  clear B
  go_enter Try.func53, Try.ntmps53
  go_wp2
  go_ret
  exact ⟨rfl, .of_ext hx, B1⟩
set_option maxHeartbeats 1000000 in
theorem rload_96_yes (jt jf : Int) (kn : Nat) (hk : kn < 16) (g : Nat) (nr arch ip a0 a1 a2 a3 a4 a5 : Int) (s : Vm) (W : World) (B : RB W g s) : Calls Try.prog 53 #[.pointer (some ⟨g, 0, none⟩), .agg #[.int .u16 96, .int .u8 jt, .int .u8 jf, .int .u32 kn], datV nr arch ip a0 a1 a2 a3 a4 a5] W fun e w' => RfP g W ({ s with a := s.cs.getD kn 0 }, 0) e w' := by
  obtain ⟨k, hkk⟩ : ∃ k : Int, k = kn := ⟨_, rfl⟩
  rw [← hkk]
  have hx := ((Ext.refl W).alloc (.cells #[.int .u16 96, .int .u8 jt, .int .u8 jf, .int .u32 k] 32)).alloc (.cells #[.int .u32 nr, .int .u32 arch, .int .u64 ip, .int .u64 a0, .int .u64 a1, .int .u64 a2, .int .u64 a3, .int .u64 a4, .int .u64 a5] 36)
  have B1 := B.ext hx
  clear B
  subst hkk
  have y0 := B1.a
  have y1 := B1.x
  have y2 := B1.c hk
  have y3 : ¬ (15 : Int) < kn := by omega
  have y4 : (0 : Int) ≤ kn := by omega
  have y5 : (kn : Int) < 16 := by omega
  have z := B1.fz 0
  have hu := ((Upd.of_ext (g := g) hx).set 0 (.int .u32 (s.cs.getD kn 0))).drew
  have B2 := (B1.setA (s.cs.getD kn 0)).drew
  clear B1 hx
  go_enter Try.func53, Try.ntmps53
  go_wp2
  go_region
  all_goals
    go_wp2
    go_ret
    exact ⟨rfl, hu, B2⟩
set_option maxHeartbeats 1000000 in
theorem rload_97_yes (jt jf : Int) (kn : Nat) (hk : kn < 16) (g : Nat) (nr arch ip a0 a1 a2 a3 a4 a5 : Int) (s : Vm) (W : World) (B : RB W g s) : Calls Try.prog 53 #[.pointer (some ⟨g, 0, none⟩), .agg #[.int .u16 97, .int .u8 jt, .int .u8 jf, .int .u32 kn], datV nr arch ip a0 a1 a2 a3 a4 a5] W fun e w' => RfP g W ({ s with x := s.cs.getD kn 0 }, 0) e w' := by
  obtain ⟨k, hkk⟩ : ∃ k : Int, k = kn := ⟨_, rfl⟩
  rw [← hkk]
  have hx := ((Ext.refl W).alloc (.cells #[.int .u16 97, .int .u8 jt, .int .u8 jf, .int .u32 k] 32)).alloc (.cells #[.int .u32 nr, .int .u32 arch, .int .u64 ip, .int .u64 a0, .int .u64 a1, .int .u64 a2, .int .u64 a3, .int .u64 a4, .int .u64 a5] 36)
  have B1 := B.ext hx
  clear B
  subst hkk
  have y0 := B1.a
  have y1 := B1.x
  have y2 := B1.c hk
  have y3 : ¬ (15 : Int) < kn := by omega
  have y4 : (0 : Int) ≤ kn := by omega
  have y5 : (kn : Int) < 16 := by omega
  have z := B1.fz 1
  have hu := ((Upd.of_ext (g := g) hx).set 1 (.int .u32 (s.cs.getD kn 0))).drew
  have B2 := (B1.setX (s.cs.getD kn 0)).drew
  clear B1 hx
  go_enter Try.func53, Try.ntmps53
  go_wp2
  go_region
  all_goals
    go_wp2
    go_ret
    exact ⟨rfl, hu, B2⟩
set_option maxHeartbeats 1000000 in
theorem rload_2_yes (jt jf : Int) (kn : Nat) (hk : kn < 16) (g : Nat) (nr arch ip a0 a1 a2 a3 a4 a5 : Int) (s : Vm) (W : World) (B : RB W g s) : Calls Try.prog 53 #[.pointer (some ⟨g, 0, none⟩), .agg #[.int .u16 2, .int .u8 jt, .int .u8 jf, .int .u32 kn], datV nr arch ip a0 a1 a2 a3 a4 a5] W fun e w' => RfP g W ({ s with cs := s.cs.set kn s.a }, 0) e w' := by
  obtain ⟨k, hkk⟩ : ∃ k : Int, k = kn := ⟨_, rfl⟩
  rw [← hkk]
  have hx := ((Ext.refl W).alloc (.cells #[.int .u16 2, .int .u8 jt, .int .u8 jf, .int .u32 k] 32)).alloc (.cells #[.int .u32 nr, .int .u32 arch, .int .u64 ip, .int .u64 a0, .int .u64 a1, .int .u64 a2, .int .u64 a3, .int .u64 a4, .int .u64 a5] 36)
  have B1 := B.ext hx
  clear B
  subst hkk
  have y0 := B1.a
  have y1 := B1.x
  have y2 := B1.c hk
  have y3 : ¬ (15 : Int) < kn := by omega
  have y4 : (0 : Int) ≤ kn := by omega
  have y5 : (kn : Int) < 16 := by omega
  have z := B1.fz (3 + kn)
  have hu := ((Upd.of_ext (g := g) hx).set (3 + kn) (.int .u32 s.a)).drew
  have B2 := (B1.setC hk s.a).drew
  clear B1 hx
  go_enter Try.func53, Try.ntmps53
  go_wp2
  go_region
  all_goals
    go_wp2
    go_ret
    exact ⟨rfl, hu, B2⟩
set_option maxHeartbeats 1000000 in
theorem rload_3_yes (jt jf : Int) (kn : Nat) (hk : kn < 16) (g : Nat) (nr arch ip a0 a1 a2 a3 a4 a5 : Int) (s : Vm) (W : World) (B : RB W g s) : Calls Try.prog 53 #[.pointer (some ⟨g, 0, none⟩), .agg #[.int .u16 3, .int .u8 jt, .int .u8 jf, .int .u32 kn], datV nr arch ip a0 a1 a2 a3 a4 a5] W fun e w' => RfP g W ({ s with cs := s.cs.set kn s.x }, 0) e w' := by
  obtain ⟨k, hkk⟩ : ∃ k : Int, k = kn := ⟨_, rfl⟩
  rw [← hkk]
  have hx := ((Ext.refl W).alloc (.cells #[.int .u16 3, .int .u8 jt, .int .u8 jf, .int .u32 k] 32)).alloc (.cells #[.int .u32 nr, .int .u32 arch, .int .u64 ip, .int .u64 a0, .int .u64 a1, .int .u64 a2, .int .u64 a3, .int .u64 a4, .int .u64 a5] 36)
  have B1 := B.ext hx
  clear B
  subst hkk
  have y0 := B1.a
  have y1 := B1.x
  have y2 := B1.c hk
  have y3 : ¬ (15 : Int) < kn := by omega
  have y4 : (0 : Int) ≤ kn := by omega
  have y5 : (kn : Int) < 16 := by omega
  have z := B1.fz (3 + kn)
  have hu := ((Upd.of_ext (g := g) hx).set (3 + kn) (.int .u32 s.x)).drew
  have B2 := (B1.setC hk s.x).drew
  clear B1 hx
  go_enter Try.func53, Try.ntmps53
  go_wp2
  go_region
  all_goals
    go_wp2
    go_ret
    exact ⟨rfl, hu, B2⟩
theorem rload_32 (jt jf k : Int) (hk : U32 k) (g : Nat) (d : Dat) (hd : d.ok) (s : Vm) (W : World) (B : RB W g s) : Calls Try.prog 53 #[.pointer (some ⟨g, 0, none⟩), .agg #[.int .u16 32, .int .u8 jt, .int .u8 jf, .int .u32 k], d.val] W fun e w' => RfP g W (if wordErr k = 0 then ({ s with a := d.word k }, 0) else (s, 41)) e w' := by
  have HW := Lib.hid (fun W => refWord_any d hd k W hk.1 hk.2)
  have HS : wordErr k = 0 ∨ wordErr k = 41 := by unfold wordErr; split <;> simp
  generalize wordErr k = we at *
  generalize d.word k = wv at *
  clear hk hd
  obtain ⟨nr, arch, ip, a0, a1, a2, a3, a4, a5⟩ := d
  have hx := ((Ext.refl W).alloc (.cells #[.int .u16 32, .int .u8 jt, .int .u8 jf, .int .u32 k] 32)).alloc (.cells #[.int .u32 nr, .int .u32 arch, .int .u64 ip, .int .u64 a0, .int .u64 a1, .int .u64 a2, .int .u64 a3, .int .u64 a4, .int .u64 a5] 36)
  have B1 := B.ext hx
  clear B
  dsimp only [Dat.val] at HW ⊢
  rcases HS with rfl | rfl
  · go_enter Try.func53, Try.ntmps53
    go_wp2_with fail
    refine (HW.out _).mono ?_
    rintro e w1 ⟨rfl, hx1⟩
    have z := (B1.ext hx1).fz 0
    have z1 := (B1.ext hx1).a
    have hu := (Upd.of_ext (g := g) (hx.trans hx1)).set 0 (.int .u32 wv)
    have B2 := (B1.ext hx1).setA wv
    clear B1 hx hx1
    go_wp2_with fail
    go_ret
    exact ⟨rfl, hu, B2⟩
  · go_enter Try.func53, Try.ntmps53
    go_wp2_with fail
    refine (HW.out _).mono ?_
    rintro e w1 ⟨rfl, hx1⟩
    go_wp2_with fail
    go_ret
    exact ⟨rfl, .of_ext (hx.trans hx1), B1.ext hx1⟩
end Go.Proofs.Ytkejcfbhikpibaa
