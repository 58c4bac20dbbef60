import Derived.Test.YtjlhfmedaandeaaWalkWords3
import Derived.Test.YtjlhfmedaandeaaBase
namespace Go.Proofs.Ytjlhfmedaandeaa
open Go.RowKit Go.ChangeShapes Go.WideShapes
set_option linter.unusedVariables false

/-- Data. -/
structure Dat where
  nr : Int
  arch : Int
  ip : Int
  a0 : Int
  a1 : Int
  a2 : Int
  a3 : Int
  a4 : Int
  a5 : Int
def U32 (x : Int) : Prop := 0 ≤ x ∧ x < 4294967296
def U64 (x : Int) : Prop := 0 ≤ x ∧ x < 256 ^ 8
structure Dat.ok (d : Dat) : Prop where
  nr : U32 d.nr
  arch : U32 d.arch
  ip : U64 d.ip
  a0 : U64 d.a0
  a1 : U64 d.a1
  a2 : U64 d.a2
  a3 : U64 d.a3
  a4 : U64 d.a4
  a5 : U64 d.a5
abbrev datV (nr arch ip a0 a1 a2 a3 a4 a5 : Int) : Value := .agg #[.int .u32 nr, .int .u32 arch, .int .u64 ip, .int .u64 a0, .int .u64 a1, .int .u64 a2, .int .u64 a3, .int .u64 a4, .int .u64 a5]
abbrev Dat.val (d : Dat) : Value := datV d.nr d.arch d.ip d.a0 d.a1 d.a2 d.a3 d.a4 d.a5
def lo (x : Int) : Int := x % 4294967296
def hi (x : Int) : Int := x / 4294967296
/-- The 16 words. -/
def Dat.words (d : Dat) : List Int := [d.nr, d.arch, lo d.ip, hi d.ip, lo d.a0, hi d.a0, lo d.a1, hi d.a1, lo d.a2, hi d.a2, lo d.a3, hi d.a3, lo d.a4, hi d.a4, lo d.a5, hi d.a5]

theorem info_u64 : (Try.prog.info? 50).map (fun i => (i.zero, i.size, i.bytes)) = some (some (.int .u64 0), 1, 8) := by kernel_rfl

/-- data.wide. -/
theorem wide_any (x : Int) (A : Option Addr) (n c : Nat) (xs : List Int) (w : World) (hn : xs.length = n) (hb : n ≤ 1000) (hM : InM w A (nums .u64 xs)) :
    Calls Try.prog 84 #[.int .u64 x, .slice A n c] w fun e w' => ∃ B c', e = .returned (.slice B (1 + n) c') ∧ InM w' B (nums .u64 (x :: xs)) ∧ (∀ b o, B = some ⟨b, o, none⟩ → w.heap.size ≤ b) ∧ Ext w w' := by
  obtain ⟨i0, hi, hz0, hz1, hz2⟩ := info_parts info_u64
  have HI := Lib.hid hi; have HZ0 := Lib.hid hz0; have HZ1 := Lib.hid hz1; have HZ2 := Lib.hid hz2
  clear hi hz0 hz1 hz2
  have Hn := Lib.hid hn; clear hn
  have ho : (w.alloc (.cells #[.int .u64 x] 50)).ownsRow w.heap.size 50 1 (.slice (some ⟨w.heap.size, 0, none⟩) 1 1) 1 [.int .u64 x] :=
    ⟨rfl, .inr ⟨w.heap.size, 1, _, rfl, Nat.le_refl _, heap_alloc_new w _, Nat.le_refl _, by unfold maxLen; omega, rfl, rfl⟩⟩
  have hM2 := hM.ext ((Ext.refl w).alloc (.cells #[.int .u64 x] 50))
  go_enter Try.func84, Try.ntmps84
  go_wp2_with (at_builtin; refine wpList_app rfl (.tmp 6) (.tmp 7) _ rfl w.heap.size 50 i0 _ 1 8 Try.underlying115 HI.out HZ0.out HZ1.out HZ2.out rfl (by omega) _ 1 1 [.int .u64 x] rfl ho A n c (nums .u64 xs) rfl (by rw [List.length_map, Hn.out, Nat.mul_one]) hM2 nums_one (by omega) (by omega) (by simp) ?_; intro B c' w2 hown2 hg2 hat2)
  go_ret
  refine ⟨B, c', rfl, own_inM hown2, fun b o e => by subst e; exact own_base hown2, ?_⟩
  exact ((Ext.refl w).alloc _).app ho (Nat.le_refl _) hg2

theorem halves' (x : Int) (w : World) (h : U64 x) :
    Calls Try.prog 85 #[.int .u64 x] w fun e w' => e = .returned (.tuple #[.int .u32 (lo x), .int .u32 (hi x)]) ∧ w = w' := halves x w h.1 h.2

/-- data.table. -/
def tblV (d : Dat) : Value := .agg #[.int .u32 d.nr, .int .u32 d.arch, .int .u32 (lo d.ip), .int .u32 (hi d.ip), .int .u32 (lo d.a0), .int .u32 (hi d.a0), .int .u32 (lo d.a1), .int .u32 (hi d.a1), .int .u32 (lo d.a2), .int .u32 (hi d.a2), .int .u32 (lo d.a3), .int .u32 (hi d.a3), .int .u32 (lo d.a4), .int .u32 (hi d.a4), .int .u32 (lo d.a5), .int .u32 (hi d.a5)]
set_option maxHeartbeats 1000000 in
theorem table_any (d : Dat) (h : d.ok) (w : World) :
    Calls Try.prog 74 #[d.val] w fun e w' => e = .returned (tblV d) ∧ Ext w w' := by
  obtain ⟨nr, arch, ip, a0, a1, a2, a3, a4, a5⟩ := d
  obtain ⟨u1, u2, u3, u4, u5, u6, u7, u8, u9⟩ := h
  dsimp only at u1 u2 u3 u4 u5 u6 u7 u8 u9
  go_enter Try.func74, Try.ntmps74
  go_wp2
  have hbox : ∀ (X Y : Obj), InM ((((w.alloc (.cells #[.int .u32 nr, .int .u32 arch, .int .u64 ip, .int .u64 a0, .int .u64 a1, .int .u64 a2, .int .u64 a3, .int .u64 a4, .int .u64 a5] 53)).alloc X).alloc Y).drew) (some ⟨w.heap.size, 3, none⟩) (nums .u64 [a0, a1, a2, a3, a4, a5]) := fun X Y =>
    (((Blk.new w 53 #[.int .u32 nr, .int .u32 arch, .int .u64 ip, .int .u64 a0, .int .u64 a1, .int .u64 a2, .int .u64 a3, .int .u64 a4, .int .u64 a5]).alloc X).alloc Y).drew.inM.drop 3
  go_region_held3 (fun w' => w'.cell? ⟨w.heap.size, 2, none⟩ = some (.int .u64 ip)) (first | go_keep | (rw [hx2.cell]; go_keep)) (first | (go_at_call 84; refine (wide_any ip _ 6 6 [a0, a1, a2, a3, a4, a5] _ rfl (by omega) (hbox _ _)).mono ?_; rintro e w2 ⟨B, c', rfl, hm2, hfr2, hx2⟩))
  obtain ⟨b, o, rfl, hb⟩ := hm2.some_ (by simp)
  have c0 : w2.cell? ⟨b, o, none⟩ = some (.int .u64 ip) := hm2.cell (k := 0) rfl
  have c1 : w2.cell? ⟨b, o + 1, none⟩ = some (.int .u64 a0) := hm2.cell (k := 1) rfl
  have c2 : w2.cell? ⟨b, o + 2, none⟩ = some (.int .u64 a1) := hm2.cell (k := 2) rfl
  have c3 : w2.cell? ⟨b, o + 3, none⟩ = some (.int .u64 a2) := hm2.cell (k := 3) rfl
  have c4 : w2.cell? ⟨b, o + 4, none⟩ = some (.int .u64 a3) := hm2.cell (k := 4) rfl
  have c5 : w2.cell? ⟨b, o + 5, none⟩ = some (.int .u64 a4) := hm2.cell (k := 5) rfl
  have c6 : w2.cell? ⟨b, o + 6, none⟩ = some (.int .u64 a5) := hm2.cell (k := 6) rfl
  clear hm2 hbox
  have hy2 : Ext w w2 := (((((Ext.refl w).alloc _).alloc _).alloc _).drew).trans hx2
  have B2 : Blk w2 (w.heap.size + 1 + 1) 102 #[.int .u32 nr, .int .u32 arch, .int .u32 0, .int .u32 0, .int .u32 0, .int .u32 0, .int .u32 0, .int .u32 0, .int .u32 0, .int .u32 0, .int .u32 0, .int .u32 0, .int .u32 0, .int .u32 0, .int .u32 0, .int .u32 0] := Blk.ext (by refine Blk.drew ?_; exact Blk.new_ (by simp)) hx2
  have B1 : Blk w2 (w.heap.size + 1) 102 #[.int .u32 0, .int .u32 0, .int .u32 0, .int .u32 0, .int .u32 0, .int .u32 0, .int .u32 0, .int .u32 0, .int .u32 0, .int .u32 0, .int .u32 0, .int .u32 0, .int .u32 0, .int .u32 0, .int .u32 0, .int .u32 0] := Blk.ext (by refine Blk.drew (Blk.alloc ?_ _); exact Blk.new_ (by simp)) hx2
  have hgo : ¬ b = w.heap.size + 1 + 1 := by
    have := hfr2 b o rfl
    simp only [World.size_drew, World.size_alloc] at this
    omega
  clear hx2 hfr2 hb
  go_wp2
  refine wp_loop_rounds 8 ?_
  rw [rounds_succ]
  have q0 := B2.cell 2
  have q1 := B2.cell 3
  have q2 := B2.frozen 2
  have q3 := B2.frozen 3
  simp at q0 q1
  go_wp2_with (go_at_call 85; refine (halves' _ _ (by assumption)).mono ?_; rintro e w' ⟨rfl, rfl⟩)
  clear q0 q1 q2 q3
  have B2 : Blk ((w2.setCell ⟨w.heap.size + 1 + 1, 2, none⟩ (.int .u32 (lo ip))).setCell ⟨w.heap.size + 1 + 1, 3, none⟩ (.int .u32 (hi ip))) (w.heap.size + 1 + 1) 102 #[.int .u32 nr, .int .u32 arch, .int .u32 (lo ip), .int .u32 (hi ip), .int .u32 0, .int .u32 0, .int .u32 0, .int .u32 0, .int .u32 0, .int .u32 0, .int .u32 0, .int .u32 0, .int .u32 0, .int .u32 0, .int .u32 0, .int .u32 0] := (B2.set_ _ _).set_ _ _
  have B1 := (B1.far (p := ⟨w.heap.size + 1 + 1, 2, none⟩) (by dsimp only; omega) (.int .u32 (lo ip))).far (p := ⟨w.heap.size + 1 + 1, 3, none⟩) (by dsimp only; omega) (.int .u32 (hi ip))
  have hy2 := (hy2.set (p := ⟨w.heap.size + 1 + 1, 2, none⟩) (by dsimp only; omega) (.int .u32 (lo ip))).set (p := ⟨w.heap.size + 1 + 1, 3, none⟩) (by dsimp only; omega) (.int .u32 (hi ip))
  have c1 := (World.cell?_setCell_other _ ⟨w.heap.size + 1 + 1, 3, none⟩ _ (.int .u32 (hi ip)) (by simp <;> omega)).trans ((World.cell?_setCell_other _ ⟨w.heap.size + 1 + 1, 2, none⟩ _ (.int .u32 (lo ip)) (by simp <;> omega)).trans c1)
  have c2 := (World.cell?_setCell_other _ ⟨w.heap.size + 1 + 1, 3, none⟩ _ (.int .u32 (hi ip)) (by simp <;> omega)).trans ((World.cell?_setCell_other _ ⟨w.heap.size + 1 + 1, 2, none⟩ _ (.int .u32 (lo ip)) (by simp <;> omega)).trans c2)
  have c3 := (World.cell?_setCell_other _ ⟨w.heap.size + 1 + 1, 3, none⟩ _ (.int .u32 (hi ip)) (by simp <;> omega)).trans ((World.cell?_setCell_other _ ⟨w.heap.size + 1 + 1, 2, none⟩ _ (.int .u32 (lo ip)) (by simp <;> omega)).trans c3)
  have c4 := (World.cell?_setCell_other _ ⟨w.heap.size + 1 + 1, 3, none⟩ _ (.int .u32 (hi ip)) (by simp <;> omega)).trans ((World.cell?_setCell_other _ ⟨w.heap.size + 1 + 1, 2, none⟩ _ (.int .u32 (lo ip)) (by simp <;> omega)).trans c4)
  have c5 := (World.cell?_setCell_other _ ⟨w.heap.size + 1 + 1, 3, none⟩ _ (.int .u32 (hi ip)) (by simp <;> omega)).trans ((World.cell?_setCell_other _ ⟨w.heap.size + 1 + 1, 2, none⟩ _ (.int .u32 (lo ip)) (by simp <;> omega)).trans c5)
  have c6 := (World.cell?_setCell_other _ ⟨w.heap.size + 1 + 1, 3, none⟩ _ (.int .u32 (hi ip)) (by simp <;> omega)).trans ((World.cell?_setCell_other _ ⟨w.heap.size + 1 + 1, 2, none⟩ _ (.int .u32 (lo ip)) (by simp <;> omega)).trans c6)
  generalize (w2.setCell ⟨w.heap.size + 1 + 1, 2, none⟩ (.int .u32 (lo ip))).setCell ⟨w.heap.size + 1 + 1, 3, none⟩ (.int .u32 (hi ip)) = w3 at *
  rw [rounds_succ]
  have q0 := B2.cell 4
  have q1 := B2.cell 5
  have q2 := B2.frozen 4
  have q3 := B2.frozen 5
  simp at q0 q1
  go_wp2_with (go_at_call 85; refine (halves' _ _ (by assumption)).mono ?_; rintro e w' ⟨rfl, rfl⟩)
  clear q0 q1 q2 q3
  have B2 : Blk ((w3.setCell ⟨w.heap.size + 1 + 1, 4, none⟩ (.int .u32 (lo a0))).setCell ⟨w.heap.size + 1 + 1, 5, none⟩ (.int .u32 (hi a0))) (w.heap.size + 1 + 1) 102 #[.int .u32 nr, .int .u32 arch, .int .u32 (lo ip), .int .u32 (hi ip), .int .u32 (lo a0), .int .u32 (hi a0), .int .u32 0, .int .u32 0, .int .u32 0, .int .u32 0, .int .u32 0, .int .u32 0, .int .u32 0, .int .u32 0, .int .u32 0, .int .u32 0] := (B2.set_ _ _).set_ _ _
  have B1 := (B1.far (p := ⟨w.heap.size + 1 + 1, 4, none⟩) (by dsimp only; omega) (.int .u32 (lo a0))).far (p := ⟨w.heap.size + 1 + 1, 5, none⟩) (by dsimp only; omega) (.int .u32 (hi a0))
  have hy2 := (hy2.set (p := ⟨w.heap.size + 1 + 1, 4, none⟩) (by dsimp only; omega) (.int .u32 (lo a0))).set (p := ⟨w.heap.size + 1 + 1, 5, none⟩) (by dsimp only; omega) (.int .u32 (hi a0))
  have c2 := (World.cell?_setCell_other _ ⟨w.heap.size + 1 + 1, 5, none⟩ _ (.int .u32 (hi a0)) (by simp <;> omega)).trans ((World.cell?_setCell_other _ ⟨w.heap.size + 1 + 1, 4, none⟩ _ (.int .u32 (lo a0)) (by simp <;> omega)).trans c2)
  have c3 := (World.cell?_setCell_other _ ⟨w.heap.size + 1 + 1, 5, none⟩ _ (.int .u32 (hi a0)) (by simp <;> omega)).trans ((World.cell?_setCell_other _ ⟨w.heap.size + 1 + 1, 4, none⟩ _ (.int .u32 (lo a0)) (by simp <;> omega)).trans c3)
  have c4 := (World.cell?_setCell_other _ ⟨w.heap.size + 1 + 1, 5, none⟩ _ (.int .u32 (hi a0)) (by simp <;> omega)).trans ((World.cell?_setCell_other _ ⟨w.heap.size + 1 + 1, 4, none⟩ _ (.int .u32 (lo a0)) (by simp <;> omega)).trans c4)
  have c5 := (World.cell?_setCell_other _ ⟨w.heap.size + 1 + 1, 5, none⟩ _ (.int .u32 (hi a0)) (by simp <;> omega)).trans ((World.cell?_setCell_other _ ⟨w.heap.size + 1 + 1, 4, none⟩ _ (.int .u32 (lo a0)) (by simp <;> omega)).trans c5)
  have c6 := (World.cell?_setCell_other _ ⟨w.heap.size + 1 + 1, 5, none⟩ _ (.int .u32 (hi a0)) (by simp <;> omega)).trans ((World.cell?_setCell_other _ ⟨w.heap.size + 1 + 1, 4, none⟩ _ (.int .u32 (lo a0)) (by simp <;> omega)).trans c6)
  generalize (w3.setCell ⟨w.heap.size + 1 + 1, 4, none⟩ (.int .u32 (lo a0))).setCell ⟨w.heap.size + 1 + 1, 5, none⟩ (.int .u32 (hi a0)) = w4 at *
  rw [rounds_succ]
  have q0 := B2.cell 6
  have q1 := B2.cell 7
  have q2 := B2.frozen 6
  have q3 := B2.frozen 7
  simp at q0 q1
  go_wp2_with (go_at_call 85; refine (halves' _ _ (by assumption)).mono ?_; rintro e w' ⟨rfl, rfl⟩)
  clear q0 q1 q2 q3
  have B2 : Blk ((w4.setCell ⟨w.heap.size + 1 + 1, 6, none⟩ (.int .u32 (lo a1))).setCell ⟨w.heap.size + 1 + 1, 7, none⟩ (.int .u32 (hi a1))) (w.heap.size + 1 + 1) 102 #[.int .u32 nr, .int .u32 arch, .int .u32 (lo ip), .int .u32 (hi ip), .int .u32 (lo a0), .int .u32 (hi a0), .int .u32 (lo a1), .int .u32 (hi a1), .int .u32 0, .int .u32 0, .int .u32 0, .int .u32 0, .int .u32 0, .int .u32 0, .int .u32 0, .int .u32 0] := (B2.set_ _ _).set_ _ _
  have B1 := (B1.far (p := ⟨w.heap.size + 1 + 1, 6, none⟩) (by dsimp only; omega) (.int .u32 (lo a1))).far (p := ⟨w.heap.size + 1 + 1, 7, none⟩) (by dsimp only; omega) (.int .u32 (hi a1))
  have hy2 := (hy2.set (p := ⟨w.heap.size + 1 + 1, 6, none⟩) (by dsimp only; omega) (.int .u32 (lo a1))).set (p := ⟨w.heap.size + 1 + 1, 7, none⟩) (by dsimp only; omega) (.int .u32 (hi a1))
  have c3 := (World.cell?_setCell_other _ ⟨w.heap.size + 1 + 1, 7, none⟩ _ (.int .u32 (hi a1)) (by simp <;> omega)).trans ((World.cell?_setCell_other _ ⟨w.heap.size + 1 + 1, 6, none⟩ _ (.int .u32 (lo a1)) (by simp <;> omega)).trans c3)
  have c4 := (World.cell?_setCell_other _ ⟨w.heap.size + 1 + 1, 7, none⟩ _ (.int .u32 (hi a1)) (by simp <;> omega)).trans ((World.cell?_setCell_other _ ⟨w.heap.size + 1 + 1, 6, none⟩ _ (.int .u32 (lo a1)) (by simp <;> omega)).trans c4)
  have c5 := (World.cell?_setCell_other _ ⟨w.heap.size + 1 + 1, 7, none⟩ _ (.int .u32 (hi a1)) (by simp <;> omega)).trans ((World.cell?_setCell_other _ ⟨w.heap.size + 1 + 1, 6, none⟩ _ (.int .u32 (lo a1)) (by simp <;> omega)).trans c5)
  have c6 := (World.cell?_setCell_other _ ⟨w.heap.size + 1 + 1, 7, none⟩ _ (.int .u32 (hi a1)) (by simp <;> omega)).trans ((World.cell?_setCell_other _ ⟨w.heap.size + 1 + 1, 6, none⟩ _ (.int .u32 (lo a1)) (by simp <;> omega)).trans c6)
  generalize (w4.setCell ⟨w.heap.size + 1 + 1, 6, none⟩ (.int .u32 (lo a1))).setCell ⟨w.heap.size + 1 + 1, 7, none⟩ (.int .u32 (hi a1)) = w5 at *
  rw [rounds_succ]
  have q0 := B2.cell 8
  have q1 := B2.cell 9
  have q2 := B2.frozen 8
  have q3 := B2.frozen 9
  simp at q0 q1
  go_wp2_with (go_at_call 85; refine (halves' _ _ (by assumption)).mono ?_; rintro e w' ⟨rfl, rfl⟩)
  clear q0 q1 q2 q3
  have B2 : Blk ((w5.setCell ⟨w.heap.size + 1 + 1, 8, none⟩ (.int .u32 (lo a2))).setCell ⟨w.heap.size + 1 + 1, 9, none⟩ (.int .u32 (hi a2))) (w.heap.size + 1 + 1) 102 #[.int .u32 nr, .int .u32 arch, .int .u32 (lo ip), .int .u32 (hi ip), .int .u32 (lo a0), .int .u32 (hi a0), .int .u32 (lo a1), .int .u32 (hi a1), .int .u32 (lo a2), .int .u32 (hi a2), .int .u32 0, .int .u32 0, .int .u32 0, .int .u32 0, .int .u32 0, .int .u32 0] := (B2.set_ _ _).set_ _ _
  have B1 := (B1.far (p := ⟨w.heap.size + 1 + 1, 8, none⟩) (by dsimp only; omega) (.int .u32 (lo a2))).far (p := ⟨w.heap.size + 1 + 1, 9, none⟩) (by dsimp only; omega) (.int .u32 (hi a2))
  have hy2 := (hy2.set (p := ⟨w.heap.size + 1 + 1, 8, none⟩) (by dsimp only; omega) (.int .u32 (lo a2))).set (p := ⟨w.heap.size + 1 + 1, 9, none⟩) (by dsimp only; omega) (.int .u32 (hi a2))
  have c4 := (World.cell?_setCell_other _ ⟨w.heap.size + 1 + 1, 9, none⟩ _ (.int .u32 (hi a2)) (by simp <;> omega)).trans ((World.cell?_setCell_other _ ⟨w.heap.size + 1 + 1, 8, none⟩ _ (.int .u32 (lo a2)) (by simp <;> omega)).trans c4)
  have c5 := (World.cell?_setCell_other _ ⟨w.heap.size + 1 + 1, 9, none⟩ _ (.int .u32 (hi a2)) (by simp <;> omega)).trans ((World.cell?_setCell_other _ ⟨w.heap.size + 1 + 1, 8, none⟩ _ (.int .u32 (lo a2)) (by simp <;> omega)).trans c5)
  have c6 := (World.cell?_setCell_other _ ⟨w.heap.size + 1 + 1, 9, none⟩ _ (.int .u32 (hi a2)) (by simp <;> omega)).trans ((World.cell?_setCell_other _ ⟨w.heap.size + 1 + 1, 8, none⟩ _ (.int .u32 (lo a2)) (by simp <;> omega)).trans c6)
  generalize (w5.setCell ⟨w.heap.size + 1 + 1, 8, none⟩ (.int .u32 (lo a2))).setCell ⟨w.heap.size + 1 + 1, 9, none⟩ (.int .u32 (hi a2)) = w6 at *
  rw [rounds_succ]
  have q0 := B2.cell 10
  have q1 := B2.cell 11
  have q2 := B2.frozen 10
  have q3 := B2.frozen 11
  simp at q0 q1
  go_wp2_with (go_at_call 85; refine (halves' _ _ (by assumption)).mono ?_; rintro e w' ⟨rfl, rfl⟩)
  clear q0 q1 q2 q3
  have B2 : Blk ((w6.setCell ⟨w.heap.size + 1 + 1, 10, none⟩ (.int .u32 (lo a3))).setCell ⟨w.heap.size + 1 + 1, 11, none⟩ (.int .u32 (hi a3))) (w.heap.size + 1 + 1) 102 #[.int .u32 nr, .int .u32 arch, .int .u32 (lo ip), .int .u32 (hi ip), .int .u32 (lo a0), .int .u32 (hi a0), .int .u32 (lo a1), .int .u32 (hi a1), .int .u32 (lo a2), .int .u32 (hi a2), .int .u32 (lo a3), .int .u32 (hi a3), .int .u32 0, .int .u32 0, .int .u32 0, .int .u32 0] := (B2.set_ _ _).set_ _ _
  have B1 := (B1.far (p := ⟨w.heap.size + 1 + 1, 10, none⟩) (by dsimp only; omega) (.int .u32 (lo a3))).far (p := ⟨w.heap.size + 1 + 1, 11, none⟩) (by dsimp only; omega) (.int .u32 (hi a3))
  have hy2 := (hy2.set (p := ⟨w.heap.size + 1 + 1, 10, none⟩) (by dsimp only; omega) (.int .u32 (lo a3))).set (p := ⟨w.heap.size + 1 + 1, 11, none⟩) (by dsimp only; omega) (.int .u32 (hi a3))
  have c5 := (World.cell?_setCell_other _ ⟨w.heap.size + 1 + 1, 11, none⟩ _ (.int .u32 (hi a3)) (by simp <;> omega)).trans ((World.cell?_setCell_other _ ⟨w.heap.size + 1 + 1, 10, none⟩ _ (.int .u32 (lo a3)) (by simp <;> omega)).trans c5)
  have c6 := (World.cell?_setCell_other _ ⟨w.heap.size + 1 + 1, 11, none⟩ _ (.int .u32 (hi a3)) (by simp <;> omega)).trans ((World.cell?_setCell_other _ ⟨w.heap.size + 1 + 1, 10, none⟩ _ (.int .u32 (lo a3)) (by simp <;> omega)).trans c6)
  generalize (w6.setCell ⟨w.heap.size + 1 + 1, 10, none⟩ (.int .u32 (lo a3))).setCell ⟨w.heap.size + 1 + 1, 11, none⟩ (.int .u32 (hi a3)) = w7 at *
  rw [rounds_succ]
  have q0 := B2.cell 12
  have q1 := B2.cell 13
  have q2 := B2.frozen 12
  have q3 := B2.frozen 13
  simp at q0 q1
  go_wp2_with (go_at_call 85; refine (halves' _ _ (by assumption)).mono ?_; rintro e w' ⟨rfl, rfl⟩)
  clear q0 q1 q2 q3
  have B2 : Blk ((w7.setCell ⟨w.heap.size + 1 + 1, 12, none⟩ (.int .u32 (lo a4))).setCell ⟨w.heap.size + 1 + 1, 13, none⟩ (.int .u32 (hi a4))) (w.heap.size + 1 + 1) 102 #[.int .u32 nr, .int .u32 arch, .int .u32 (lo ip), .int .u32 (hi ip), .int .u32 (lo a0), .int .u32 (hi a0), .int .u32 (lo a1), .int .u32 (hi a1), .int .u32 (lo a2), .int .u32 (hi a2), .int .u32 (lo a3), .int .u32 (hi a3), .int .u32 (lo a4), .int .u32 (hi a4), .int .u32 0, .int .u32 0] := (B2.set_ _ _).set_ _ _
  have B1 := (B1.far (p := ⟨w.heap.size + 1 + 1, 12, none⟩) (by dsimp only; omega) (.int .u32 (lo a4))).far (p := ⟨w.heap.size + 1 + 1, 13, none⟩) (by dsimp only; omega) (.int .u32 (hi a4))
  have hy2 := (hy2.set (p := ⟨w.heap.size + 1 + 1, 12, none⟩) (by dsimp only; omega) (.int .u32 (lo a4))).set (p := ⟨w.heap.size + 1 + 1, 13, none⟩) (by dsimp only; omega) (.int .u32 (hi a4))
  have c6 := (World.cell?_setCell_other _ ⟨w.heap.size + 1 + 1, 13, none⟩ _ (.int .u32 (hi a4)) (by simp <;> omega)).trans ((World.cell?_setCell_other _ ⟨w.heap.size + 1 + 1, 12, none⟩ _ (.int .u32 (lo a4)) (by simp <;> omega)).trans c6)
  generalize (w7.setCell ⟨w.heap.size + 1 + 1, 12, none⟩ (.int .u32 (lo a4))).setCell ⟨w.heap.size + 1 + 1, 13, none⟩ (.int .u32 (hi a4)) = w8 at *
  rw [rounds_succ]
  have q0 := B2.cell 14
  have q1 := B2.cell 15
  have q2 := B2.frozen 14
  have q3 := B2.frozen 15
  simp at q0 q1
  go_wp2_with (go_at_call 85; refine (halves' _ _ (by assumption)).mono ?_; rintro e w' ⟨rfl, rfl⟩)
  clear q0 q1 q2 q3
  have B2 : Blk ((w8.setCell ⟨w.heap.size + 1 + 1, 14, none⟩ (.int .u32 (lo a5))).setCell ⟨w.heap.size + 1 + 1, 15, none⟩ (.int .u32 (hi a5))) (w.heap.size + 1 + 1) 102 #[.int .u32 nr, .int .u32 arch, .int .u32 (lo ip), .int .u32 (hi ip), .int .u32 (lo a0), .int .u32 (hi a0), .int .u32 (lo a1), .int .u32 (hi a1), .int .u32 (lo a2), .int .u32 (hi a2), .int .u32 (lo a3), .int .u32 (hi a3), .int .u32 (lo a4), .int .u32 (hi a4), .int .u32 (lo a5), .int .u32 (hi a5)] := (B2.set_ _ _).set_ _ _
  have B1 := (B1.far (p := ⟨w.heap.size + 1 + 1, 14, none⟩) (by dsimp only; omega) (.int .u32 (lo a5))).far (p := ⟨w.heap.size + 1 + 1, 15, none⟩) (by dsimp only; omega) (.int .u32 (hi a5))
  have hy2 := (hy2.set (p := ⟨w.heap.size + 1 + 1, 14, none⟩) (by dsimp only; omega) (.int .u32 (lo a5))).set (p := ⟨w.heap.size + 1 + 1, 15, none⟩) (by dsimp only; omega) (.int .u32 (hi a5))
  generalize (w8.setCell ⟨w.heap.size + 1 + 1, 14, none⟩ (.int .u32 (lo a5))).setCell ⟨w.heap.size + 1 + 1, 15, none⟩ (.int .u32 (hi a5)) = w9 at *
  rw [rounds_succ]
  go_wp2_with (first | (refine wpList_load_blk rfl 102 (.tmp 3) rfl _ _ _ _ rfl B2 Try.underlying102 rfl (by kernel_rfl) ?_) | (refine wpList_store_all rfl 102 (.tmp 2) (.tmp 36) rfl _ _ _ _ rfl rfl B1 rfl (by kernel_rfl) (by simp [Value.oneCell']) ?_; intro wz Bz hgz))
  refine bodyPost_ret (results_blk1 rfl _ _ _ _ _ _ rfl Bz Try.underlying102 rfl (by kernel_rfl)) rfl ⟨rfl, hy2.grown hgz (fun k e => by cases e; omega)⟩
end Go.Proofs.Ytjlhfmedaandeaa

namespace Go.Proofs.Ytjlhfmedaandeaa
open Go.RowKit Go.ChangeShapes Go.WideShapes
set_option linter.unusedVariables false

/-- place, Low, High. -/
def plc (a k : Int) : Int := if 0 ≤ a ∧ a ≤ 5 then 16 + 8 * a + k else 0
def plb (a : Int) : Bool := decide (0 ≤ a ∧ a ≤ 5)
/-- Word. -/
def wordOk (at_ : Int) : Bool := decide (at_ % 4 = 0 ∧ at_ < 64)
def Dat.word (d : Dat) (at_ : Int) : Int := if wordOk at_ = true then d.words.getD (at_ / 4).toNat 0 else 0
def wordErr (at_ : Int) : Int := if wordOk at_ = true then 0 else 41
theorem tbl_index (d : Dat) (k : Nat) (hk : k < 16) (W : World) : (Instr.index 102 (tblV d) (.int .u32 k)).run Try.prog W = .ok (.int .u32 (d.words.getD k 0)) W := by
  obtain rfl | rfl | rfl | rfl | rfl | rfl | rfl | rfl | rfl | rfl | rfl | rfl | rfl | rfl | rfl | rfl : k = 0 ∨ k = 1 ∨ k = 2 ∨ k = 3 ∨ k = 4 ∨ k = 5 ∨ k = 6 ∨ k = 7 ∨ k = 8 ∨ k = 9 ∨ k = 10 ∨ k = 11 ∨ k = 12 ∨ k = 13 ∨ k = 14 ∨ k = 15 := by omega
  all_goals kernel_rfl
theorem word_any (d : Dat) (hd : d.ok) (at_ : Int) (w : World) (h0 : 0 ≤ at_) (h1 : at_ < 4294967296) :
    Calls Try.prog 58 #[d.val, .int .u32 at_] w fun e w' => e = .returned (.tuple #[.int .u32 (d.word at_), .int .i64 (wordErr at_)]) ∧ Ext w w' := by
  by_cases h4 : at_ % 4 = 0
  · have d1 : (at_ % 4 != 0) = false := by simp; exact h4
    by_cases h64 : at_ < 64
    · have hw : wordOk at_ = true := by unfold wordOk; simp; omega
      rw [show d.word at_ = d.words.getD (at_ / 4).toNat 0 from by unfold Dat.word; rw [if_pos hw], show wordErr at_ = 0 from by unfold wordErr; rw [if_pos hw]]
      have d2 : decide (64 ≤ at_) = false := by simp; omega
      have hidx := tbl_index d (at_ / 4).toNat (by omega)
      rw [show ((at_ / 4).toNat : Int) = at_ / 4 from by omega] at hidx
      have hq := IntWalk.u32_quo at_ 4 (by omega)
      have HT := fun W : World => table_any d hd W
      have HC := Lib.hid HT; clear HT
      generalize tblV d = T at *
      clear h4 hw h64
      obtain ⟨nr, arch, ip, a0, a1, a2, a3, a4, a5⟩ := d
      go_enter Try.func58, Try.ntmps58
      go_wp2_with (go_at_call 74; refine (HC.out _).mono ?_; rintro e w2 ⟨rfl, hx2⟩)
      go_ret2
      exact ⟨rfl, hx2.one⟩
    · have hw : wordOk at_ = false := by unfold wordOk; simp; omega
      rw [show d.word at_ = 0 from by unfold Dat.word; rw [if_neg (by rw [hw]; simp)], show wordErr at_ = 41 from by unfold wordErr; rw [if_neg (by rw [hw]; simp)]]
      have d2 : decide (64 ≤ at_) = true := by simp; omega
      clear h4 hw
      obtain ⟨nr, arch, ip, a0, a1, a2, a3, a4, a5⟩ := d
      go_enter Try.func58, Try.ntmps58
      go_wp2
      go_ret2
      exact ⟨rfl, (Ext.refl w).alloc _⟩
  · have d1 : (at_ % 4 != 0) = true := by simp; exact h4
    have hw : wordOk at_ = false := by unfold wordOk; simp; omega
    rw [show d.word at_ = 0 from by unfold Dat.word; rw [if_neg (by rw [hw]; simp)], show wordErr at_ = 41 from by unfold wordErr; rw [if_neg (by rw [hw]; simp)]]
    clear h4 hw
    obtain ⟨nr, arch, ip, a0, a1, a2, a3, a4, a5⟩ := d
    go_enter Try.func58, Try.ntmps58
    go_wp2
    go_ret2
    exact ⟨rfl, (Ext.refl w).alloc _⟩
end Go.Proofs.Ytjlhfmedaandeaa

namespace Go.Proofs.Ytjlhfmedaandeaa
open Go.RowKit Go.ChangeShapes Go.WideShapes
set_option linter.unusedVariables false

/-- What Parse tells of 64 bytes. -/
def parseD (bs : List Int) : Dat := ⟨getB bs 0 4, getB bs 4 4, getB bs 8 8, getB bs 16 8, getB bs 24 8, getB bs 32 8, getB bs 40 8, getB bs 48 8, getB bs 56 8⟩
def zeroD : Dat := ⟨0, 0, 0, 0, 0, 0, 0, 0, 0⟩
theorem parseD_ok {bs : List Int} (h : Byt bs) : (parseD bs).ok := by
  have k4 : ∀ a, U32 (getB bs a 4) := fun a => ⟨(getB_bd h a 4).1, by have := (getB_bd h a 4).2; omega⟩
  have k8 : ∀ a, U64 (getB bs a 8) := fun a => getB_bd h a 8
  exact ⟨k4 _, k4 _, k8 _, k8 _, k8 _, k8 _, k8 _, k8 _, k8 _⟩

end Go.Proofs.Ytjlhfmedaandeaa

namespace Go.Proofs.Ytjlhfmedaandeaa
open Go.RowKit Go.ChangeShapes Go.WideShapes
set_option linter.unusedVariables false
theorem args_refl (n : Nat) (a b c d e f : Int) (W : World) : (Op.equalIn (n + 2) 51 (.agg #[.int .u64 a, .int .u64 b, .int .u64 c, .int .u64 d, .int .u64 e, .int .u64 f]) (.agg #[.int .u64 a, .int .u64 b, .int .u64 c, .int .u64 d, .int .u64 e, .int .u64 f])).run Try.prog W = .ok true W := by
  have h1 : Try.prog.underlying 51 = some (.array 6 50) := by kernel_rfl
  have h2 : ∀ W, (Go.sizeOf 50).run Try.prog W = .ok 1 W := fun _ => by kernel_rfl
  have h3 : ∀ (x y : Int) (W : World), (Op.equalIn (n + 1) 50 (.int .u64 x) (.int .u64 y)).run Try.prog W = .ok (x == y) W := fun x y W => run_equalIn_int W n _ .u64 .u64 x y Try.underlying50
  have h5 : ∀ W, (isAgg 50).run Try.prog W = .ok false W := fun _ => by kernel_rfl
  unfold Op.equalIn
  simp only [Sem.run_bind, run_underlying h1, Result.andThen_ok, h2]
  simp only [Std.Legacy.Range.forIn_eq_forIn_range', Std.Legacy.Range.size, Nat.sub_zero, Nat.reduceAdd, Nat.reduceSub, Nat.div_one, List.range'_succ, List.range'_zero]
  simp [part, *]
theorem dat_refl (n : Nat) (d : Dat) (W : World) : (Op.equalIn (n + 3) 53 d.val d.val).run Try.prog W = .ok true W := by
  have h32 : ∀ (x y : Int) (W : World), (Op.equalIn (n + 2) 30 (.int .u32 x) (.int .u32 y)).run Try.prog W = .ok (x == y) W := fun x y W => run_equalIn_int W (n + 1) _ .u32 .u32 x y Try.underlying30
  have h64 : ∀ (x y : Int) (W : World), (Op.equalIn (n + 2) 50 (.int .u64 x) (.int .u64 y)).run Try.prog W = .ok (x == y) W := fun x y W => run_equalIn_int W (n + 1) _ .u64 .u64 x y Try.underlying50
  have i32 : ∀ W, (isAgg 30).run Try.prog W = .ok false W := fun _ => by kernel_rfl
  have i64 : ∀ W, (isAgg 50).run Try.prog W = .ok false W := fun _ => by kernel_rfl
  have iA : ∀ W, (isAgg 51).run Try.prog W = .ok true W := fun _ => by kernel_rfl
  have sA : ∀ W, (Go.sizeOf 51).run Try.prog W = .ok 6 W := fun _ => by kernel_rfl
  obtain ⟨nr, arch, ip, a, b, c, e, f, g⟩ := d
  have hE := fun W : World => args_refl n a b c e f g W
  have hf : (Try.prog.fieldsOf 53).toList.map (fun f => (f.name, f.type, f.offset)) = [("Nr", 30, 0), ("Arch", 30, 1), ("IP", 50, 2), ("Args", 51, 3)] := by kernel_rfl
  simp only [Dat.val, datV]
  rw [run_equalIn_struct W (n + 2) 53 _ _ (by kernel_rfl) (by kernel_rfl)]
  generalize (Try.prog.fieldsOf 53).toList = L at hf
  obtain ⟨f0, f1, f2, f3, rfl⟩ : ∃ f0 f1 f2 f3, L = [f0, f1, f2, f3] := by
    have hl : L.length = 4 := by simpa using congrArg List.length hf
    clear hf
    match L, hl with
    | [a, b, c, d], _ => exact ⟨a, b, c, d, rfl⟩
  simp only [List.map_cons, List.map_nil, List.cons.injEq, Prod.mk.injEq, and_true] at hf
  obtain ⟨⟨n0, t0, o0⟩, ⟨n1, t1, o1⟩, ⟨n2, t2, o2⟩, n3, t3, o3⟩ := hf
  simp [Op.eqFields, part, *]
theorem dat_eql (d : Dat) (W : World) : (binOp .eql 53 d.val d.val).run Try.prog W = .ok (.bool true) W := by
  rw [Dat.val, run_eql_struct]
  have := dat_refl 9997 d W
  rw [Dat.val] at this
  rw [this]
  rfl
theorem dat_neq (d : Dat) (W : World) : (binOp .neq 53 d.val d.val).run Try.prog W = .ok (.bool false) W := by
  rw [Dat.val, run_neq_struct]
  have := dat_refl 9997 d W
  rw [Dat.val] at this
  rw [this]
  rfl
end Go.Proofs.Ytjlhfmedaandeaa

namespace Go.Proofs.Ytjlhfmedaandeaa
open Go.RowKit Go.ChangeShapes Go.WideShapes
set_option linter.unusedVariables false

/-- The bytes of words, 4 each. -/
def prB : List Int → List Int
  | [] => []
  | x :: r => leB 4 x ++ prB r
theorem prB_append (a b : List Int) : prB (a ++ b) = prB a ++ prB b := by
  induction a with
  | nil => simp [prB]
  | cons s r ih => simp [prB, ih]
theorem prB_length : ∀ l : List Int, (prB l).length = 4 * l.length
  | [] => rfl
  | x :: r => by simp only [prB, List.length_append, leB_length, prB_length r, List.length_cons]; omega
theorem prB_byt : ∀ l : List Int, Byt (prB l)
  | [] => fun x hx => by simp [prB] at hx
  | x :: r => (leB_byt 4 x).append (prB_byt r)
theorem prB_succ (l : List Int) (k : Nat) (hk : k < l.length) : prB (l.take (k + 1)) = prB (l.take k) ++ leB 4 (l.getD k 0) := by
  rw [List.take_succ_eq_append_getElem hk, prB_append, List.getD_eq_getElem?_getD, List.getElem?_eq_getElem hk]
  simp [prB]
def Dat.bytes (d : Dat) : List Int := prB d.words
theorem words_u32 (d : Dat) (h : d.ok) : ∀ x ∈ d.words, U32 x := by
  have hlo : ∀ x, U32 (lo x) := fun x => by unfold lo U32; omega
  have hhi : ∀ x, U64 x → U32 (hi x) := fun x hx => by
    have := hx.1
    have h2 := hx.2
    unfold hi U32
    omega
  intro x hx
  simp only [Dat.words, List.mem_cons, List.not_mem_nil, or_false] at hx
  rcases hx with rfl | rfl | rfl | rfl | rfl | rfl | rfl | rfl | rfl | rfl | rfl | rfl | rfl | rfl | rfl | rfl
  all_goals first | exact h.nr | exact h.arch | exact hlo _ | exact hhi _ h.ip | exact hhi _ h.a0 | exact hhi _ h.a1 | exact hhi _ h.a2 | exact hhi _ h.a3 | exact hhi _ h.a4 | exact hhi _ h.a5
theorem wordAt_u32 (d : Dat) (h : d.ok) (k : Nat) : U32 (d.words.getD k 0) := by
  rw [List.getD_eq_getElem?_getD]
  rcases Nat.lt_or_ge k d.words.length with hk | hk
  · rw [List.getElem?_eq_getElem hk]
    exact words_u32 d h _ (List.getElem_mem hk)
  · rw [List.getElem?_eq_none hk]
    exact ⟨Int.le_refl _, by decide⟩

theorem tbl_index64 (d : Dat) (k : Nat) (hk : k < 16) (W : World) : (Instr.index 102 (tblV d) (.int .i64 k)).run Try.prog W = .ok (.int .u32 (d.words.getD k 0)) W := by
  obtain rfl | rfl | rfl | rfl | rfl | rfl | rfl | rfl | rfl | rfl | rfl | rfl | rfl | rfl | rfl | rfl : k = 0 ∨ k = 1 ∨ k = 2 ∨ k = 3 ∨ k = 4 ∨ k = 5 ∨ k = 6 ∨ k = 7 ∨ k = 8 ∨ k = 9 ∨ k = 10 ∨ k = 11 ∨ k = 12 ∨ k = 13 ∨ k = 14 ∨ k = 15 := by omega
  all_goals kernel_rfl

end Go.Proofs.Ytjlhfmedaandeaa

namespace Go.Proofs.Ytjlhfmedaandeaa
open Go.RowKit Go.ChangeShapes Go.WideShapes
set_option linter.unusedVariables false

theorem own_of_blk {w : World} {base g n : Nat} {t : TypeId} {cs : List Value} (h : Blk w g t cs.toArray) (hb : base ≤ g) (hn : cs.length = n) (hm : n ≤ 1000000) : w.ownsRow base t 1 (.slice (some ⟨g, 0, none⟩) n n) n cs :=
  ⟨by rw [hn, Nat.mul_one], .inr ⟨g, n, cs.toArray, rfl, hb, h, Nat.le_refl _, by unfold maxLen; omega, by simp [hn], by rw [Nat.mul_one, ← hn]; simp⟩⟩
theorem leB8 (x : Int) : leB 8 x = leB 4 (lo x) ++ leB 4 (hi x) := by
  have h := leB_halves (x % 4294967296) (x / 4294967296) (by omega)
  rwa [show x % 4294967296 + 4294967296 * (x / 4294967296) = x from by omega] at h
theorem bytes_eq (d : Dat) : d.bytes = leB 4 d.nr ++ leB 4 d.arch ++ leB 8 d.ip ++ leB 8 d.a0 ++ leB 8 d.a1 ++ leB 8 d.a2 ++ leB 8 d.a3 ++ leB 8 d.a4 ++ leB 8 d.a5 := by
  simp only [Dat.bytes, Dat.words, prB, leB8, List.append_assoc, List.append_nil]

end Go.Proofs.Ytjlhfmedaandeaa

namespace Go.Proofs.Ytjlhfmedaandeaa
open Go.RowKit Go.ChangeShapes Go.WideShapes
set_option linter.unusedVariables false

theorem prB_drop : ∀ (l : List Int) (k : Nat), (prB l).drop (4 * k) = prB (l.drop k)
  | l, 0 => by simp
  | [], k + 1 => by simp [prB]
  | x :: r, k + 1 => by
    rw [show 4 * (k + 1) = 4 + 4 * k from by omega, ← List.drop_drop]
    simp only [prB, List.drop_succ_cons]
    rw [List.drop_append_of_le_length (by rw [leB_length]; omega), List.drop_eq_nil_of_le (show (leB 4 x).length ≤ 4 by rw [leB_length]; omega), List.nil_append]
    exact prB_drop r k
theorem getB_prB4 (l : List Int) (k : Nat) (hk : k < l.length) (hu : ∀ x ∈ l, U32 x) : getB (prB l) (4 * k) 4 = l.getD k 0 := by
  unfold getB
  rw [prB_drop, List.drop_eq_getElem_cons hk]
  simp only [prB]
  rw [List.take_append_of_le_length (by rw [leB_length]; omega), List.take_of_length_le (by rw [leB_length]; omega)]
  have := hu _ (List.getElem_mem hk)
  rw [leN_leB 4 _ this.1 (by have := this.2; omega), List.getD_eq_getElem?_getD, List.getElem?_eq_getElem hk]
  rfl
theorem leN_append : ∀ (a b : List Int), leN (a ++ b) = leN a + 256 ^ a.length * leN b
  | [], b => by simp [leN]
  | x :: r, b => by
    simp only [leN, List.cons_append, List.length_cons, Int.pow_succ]
    rw [leN_append r b]
    rw [Int.mul_add, Int.add_assoc, ← Int.mul_assoc, Int.mul_comm 256 (256 ^ r.length)]
theorem getB_prB8 (l : List Int) (k : Nat) (hk : k + 1 < l.length) (hu : ∀ x ∈ l, U32 x) : getB (prB l) (4 * k) 8 = l.getD k 0 + 4294967296 * l.getD (k + 1) 0 := by
  have h1 := hu _ (List.getElem_mem (show k < l.length by omega))
  have h2 := hu _ (List.getElem_mem hk)
  unfold getB
  rw [prB_drop, List.drop_eq_getElem_cons (by omega), List.drop_eq_getElem_cons hk]
  simp only [prB]
  rw [← List.append_assoc, List.take_append_of_le_length (by rw [List.length_append, leB_length, leB_length]; omega), List.take_of_length_le (by rw [List.length_append, leB_length, leB_length]; omega)]
  rw [leN_append, leB_length, leN_leB 4 _ h1.1 (by have := h1.2; omega), leN_leB 4 _ h2.1 (by have := h2.2; omega), List.getD_eq_getElem?_getD, List.getD_eq_getElem?_getD, List.getElem?_eq_getElem (by omega), List.getElem?_eq_getElem hk]
  rfl
theorem lohi (x : Int) : lo x + 4294967296 * hi x = x := by unfold lo hi; omega
theorem parse_bytes (d : Dat) (h : d.ok) : parseD d.bytes = d := by
  have hu := words_u32 d h
  have e4 : ∀ k, k < 16 → getB d.bytes (4 * k) 4 = d.words.getD k 0 := fun k hk => getB_prB4 d.words k hk hu
  have e8 : ∀ k, k + 1 < 16 → getB d.bytes (4 * k) 8 = d.words.getD k 0 + 4294967296 * d.words.getD (k + 1) 0 := fun k hk => getB_prB8 d.words k hk hu
  obtain ⟨nr, arch, ip, a0, a1, a2, a3, a4, a5⟩ := d
  have f0 := e4 0 (by omega)
  have f1 := e4 1 (by omega)
  have f2 := e8 2 (by omega)
  have f3 := e8 4 (by omega)
  have f4 := e8 6 (by omega)
  have f5 := e8 8 (by omega)
  have f6 := e8 10 (by omega)
  have f7 := e8 12 (by omega)
  have f8 := e8 14 (by omega)
  simp only [Dat.words, List.getD_cons_zero, List.getD_cons_succ, lohi, Nat.mul_zero, Nat.mul_one, Nat.reduceMul, Nat.reduceAdd] at f0 f1 f2 f3 f4 f5 f6 f7 f8
  unfold parseD
  rw [f0, f1, f2, f3, f4, f5, f6, f7, f8]
theorem seg_leB (bs : List Int) (hB : Byt bs) (a k : Nat) (h : a + k ≤ bs.length) : leB k (getB bs a k) = (bs.drop a).take k := by
  have := leB_leN ((bs.drop a).take k) ((hB.drop a).take k)
  rwa [List.length_take, List.length_drop, show min k (bs.length - a) = k from by omega] at this
theorem seg_join (bs : List Int) (a k m : Nat) : (bs.drop a).take k ++ (bs.drop (a + k)).take m = (bs.drop a).take (k + m) := by
  rw [← List.drop_drop, List.take_add]
theorem bytes_parse (bs : List Int) (hB : Byt bs) (hn : bs.length = 64) : (parseD bs).bytes = bs := by
  rw [bytes_eq]
  simp only [parseD]
  rw [seg_leB bs hB 0 4 (by omega), seg_leB bs hB 4 4 (by omega), seg_leB bs hB 8 8 (by omega), seg_leB bs hB 16 8 (by omega), seg_leB bs hB 24 8 (by omega), seg_leB bs hB 32 8 (by omega), seg_leB bs hB 40 8 (by omega), seg_leB bs hB 48 8 (by omega), seg_leB bs hB 56 8 (by omega)]
  have j := fun k m => seg_join bs 0 k m
  simp only [Nat.zero_add] at j
  rw [j 4 4, j 8 8, j 16 8, j 24 8, j 32 8, j 40 8, j 48 8, j 56 8, List.drop_zero, List.take_of_length_le (by omega)]

end Go.Proofs.Ytjlhfmedaandeaa

namespace Go.Proofs.Ytjlhfmedaandeaa
open Go.RowKit Go.ChangeShapes Go.WideShapes
set_option linter.unusedVariables false
abbrev exD : Dat := ⟨1, 3221225534, 0, 0, 0, 21474836487, 0, 0, 0⟩
theorem exD_ok : exD.ok := ⟨by unfold U32; decide, by unfold U32; decide, by unfold U64; decide, by unfold U64; decide, by unfold U64; decide, by unfold U64; decide, by unfold U64; decide, by unfold U64; decide, by unfold U64; decide⟩
end Go.Proofs.Ytjlhfmedaandeaa
