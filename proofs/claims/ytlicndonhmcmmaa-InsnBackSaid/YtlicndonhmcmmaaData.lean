import Derived.Test.YtlicndonhmcmmaaWalkWords3
import Derived.Test.YtlicndonhmcmmaaBase2
namespace Go.Proofs.Ytlicndonhmcmmaa
open Go.RowKit Go.ChangeShapes Go.WideShapes
set_option linter.unusedVariables false

/-- Data. -/
structure Dat where
  nr : Int
  arch : Int
  ip : Int
  a0 : Int
  a1 : Int
  a2 : Int
  a3 : Int
  a4 : Int
  a5 : Int
def U32 (x : Int) : Prop := 0 ≤ x ∧ x < 4294967296
def U64 (x : Int) : Prop := 0 ≤ x ∧ x < 256 ^ 8
structure Dat.ok (d : Dat) : Prop where
  nr : U32 d.nr
  arch : U32 d.arch
  ip : U64 d.ip
  a0 : U64 d.a0
  a1 : U64 d.a1
  a2 : U64 d.a2
  a3 : U64 d.a3
  a4 : U64 d.a4
  a5 : U64 d.a5
abbrev datV (nr arch ip a0 a1 a2 a3 a4 a5 : Int) : Value := .agg #[.int .u32 nr, .int .u32 arch, .int .u64 ip, .int .u64 a0, .int .u64 a1, .int .u64 a2, .int .u64 a3, .int .u64 a4, .int .u64 a5]
abbrev Dat.val (d : Dat) : Value := datV d.nr d.arch d.ip d.a0 d.a1 d.a2 d.a3 d.a4 d.a5
def lo (x : Int) : Int := x % 4294967296
def hi (x : Int) : Int := x / 4294967296
/-- The 16 words. -/
def Dat.words (d : Dat) : List Int := [d.nr, d.arch, lo d.ip, hi d.ip, lo d.a0, hi d.a0, lo d.a1, hi d.a1, lo d.a2, hi d.a2, lo d.a3, hi d.a3, lo d.a4, hi d.a4, lo d.a5, hi d.a5]

theorem info_u64 : (Try.prog.info? 22).map (fun i => (i.zero, i.size, i.bytes)) = some (some (.int .u64 0), 1, 8) := by kernel_rfl

/-- data.wide. -/
theorem wide_any (x : Int) (A : Option Addr) (n c : Nat) (xs : List Int) (w : World) (hn : xs.length = n) (hb : n ≤ 1000) (hM : InM w A (nums .u64 xs)) :
    Calls Try.prog 84 #[.int .u64 x, .slice A n c] w fun e w' => ∃ B c', e = .returned (.slice B (1 + n) c') ∧ InM w' B (nums .u64 (x :: xs)) ∧ (∀ b o, B = some ⟨b, o, none⟩ → w.heap.size ≤ b) ∧ Ext w w' := by
  obtain ⟨i0, hi, hz0, hz1, hz2⟩ := info_parts info_u64
  have HI := Lib.hid hi; have HZ0 := Lib.hid hz0; have HZ1 := Lib.hid hz1; have HZ2 := Lib.hid hz2
  clear hi hz0 hz1 hz2
  have Hn := Lib.hid hn; clear hn
  have ho : (w.alloc (.cells #[.int .u64 x] 22)).ownsRow w.heap.size 22 1 (.slice (some ⟨w.heap.size, 0, none⟩) 1 1) 1 [.int .u64 x] :=
    ⟨rfl, .inr ⟨w.heap.size, 1, _, rfl, Nat.le_refl _, heap_alloc_new w _, Nat.le_refl _, by unfold maxLen; omega, rfl, rfl⟩⟩
  have hM2 := hM.ext ((Ext.refl w).alloc (.cells #[.int .u64 x] 22))
  go_enter Try.func84, Try.ntmps84
  go_wp2_with (at_builtin; refine wpList_app rfl (.tmp 6) (.tmp 7) _ rfl w.heap.size 22 i0 _ 1 8 Try.underlying121 HI.out HZ0.out HZ1.out HZ2.out rfl (by omega) _ 1 1 [.int .u64 x] rfl ho A n c (nums .u64 xs) rfl (by rw [List.length_map, Hn.out, Nat.mul_one]) hM2 nums_one (by omega) (by omega) (by simp) ?_; intro B c' w2 hown2 hg2 hat2)
  go_ret
  refine ⟨B, c', rfl, own_inM hown2, fun b o e => by subst e; exact own_base hown2, ?_⟩
  exact ((Ext.refl w).alloc _).app ho (Nat.le_refl _) hg2

theorem halves' (x : Int) (w : World) (h : U64 x) :
    Calls Try.prog 26 #[.int .u64 x] w fun e w' => e = .returned (.tuple #[.int .u32 (lo x), .int .u32 (hi x)]) ∧ w = w' := halves x w h.1 h.2

/-- data.table. -/
def tblV (d : Dat) : Value := .agg #[.int .u32 d.nr, .int .u32 d.arch, .int .u32 (lo d.ip), .int .u32 (hi d.ip), .int .u32 (lo d.a0), .int .u32 (hi d.a0), .int .u32 (lo d.a1), .int .u32 (hi d.a1), .int .u32 (lo d.a2), .int .u32 (hi d.a2), .int .u32 (lo d.a3), .int .u32 (hi d.a3), .int .u32 (lo d.a4), .int .u32 (hi d.a4), .int .u32 (lo d.a5), .int .u32 (hi d.a5)]
set_option maxHeartbeats 1000000 in
theorem table_any (d : Dat) (h : d.ok) (w : World) :
    Calls Try.prog 74 #[d.val] w fun e w' => e = .returned (tblV d) ∧ Ext w w' := by
  obtain ⟨nr, arch, ip, a0, a1, a2, a3, a4, a5⟩ := d
  obtain ⟨u1, u2, u3, u4, u5, u6, u7, u8, u9⟩ := h
  dsimp only at u1 u2 u3 u4 u5 u6 u7 u8 u9
  go_enter Try.func74, Try.ntmps74
  go_wp2
  have hbox : ∀ (X Y : Obj), InM ((((w.alloc (.cells #[.int .u32 nr, .int .u32 arch, .int .u64 ip, .int .u64 a0, .int .u64 a1, .int .u64 a2, .int .u64 a3, .int .u64 a4, .int .u64 a5] 45)).alloc X).alloc Y).drew) (some ⟨w.heap.size, 3, none⟩) (nums .u64 [a0, a1, a2, a3, a4, a5]) := fun X Y =>
    (((Blk.new w 45 #[.int .u32 nr, .int .u32 arch, .int .u64 ip, .int .u64 a0, .int .u64 a1, .int .u64 a2, .int .u64 a3, .int .u64 a4, .int .u64 a5]).alloc X).alloc Y).drew.inM.drop 3
  go_region_held3 (fun w' => w'.cell? ⟨w.heap.size, 2, none⟩ = some (.int .u64 ip)) (first | go_keep | (rw [hx2.cell]; go_keep)) (first | (go_at_call 84; refine (wide_any ip _ 6 6 [a0, a1, a2, a3, a4, a5] _ rfl (by omega) (hbox _ _)).mono ?_; rintro e w2 ⟨B, c', rfl, hm2, hfr2, hx2⟩))
  obtain ⟨b, o, rfl, hb⟩ := hm2.some_ (by simp)
  have c0 : w2.cell? ⟨b, o, none⟩ = some (.int .u64 ip) := hm2.cell (k := 0) rfl
  have c1 : w2.cell? ⟨b, o + 1, none⟩ = some (.int .u64 a0) := hm2.cell (k := 1) rfl
  have c2 : w2.cell? ⟨b, o + 2, none⟩ = some (.int .u64 a1) := hm2.cell (k := 2) rfl
  have c3 : w2.cell? ⟨b, o + 3, none⟩ = some (.int .u64 a2) := hm2.cell (k := 3) rfl
  have c4 : w2.cell? ⟨b, o + 4, none⟩ = some (.int .u64 a3) := hm2.cell (k := 4) rfl
  have c5 : w2.cell? ⟨b, o + 5, none⟩ = some (.int .u64 a4) := hm2.cell (k := 5) rfl
  have c6 : w2.cell? ⟨b, o + 6, none⟩ = some (.int .u64 a5) := hm2.cell (k := 6) rfl
  clear hm2 hbox
  have hy2 : Ext w w2 := (((((Ext.refl w).alloc _).alloc _).alloc _).drew).trans hx2
  have B2 : Blk w2 (w.heap.size + 1 + 1) 107 #[.int .u32 nr, .int .u32 arch, .int .u32 0, .int .u32 0, .int .u32 0, .int .u32 0, .int .u32 0, .int .u32 0, .int .u32 0, .int .u32 0, .int .u32 0, .int .u32 0, .int .u32 0, .int .u32 0, .int .u32 0, .int .u32 0] := Blk.ext (by refine Blk.drew ?_; exact Blk.new_ (by simp)) hx2
  have B1 : Blk w2 (w.heap.size + 1) 107 #[.int .u32 0, .int .u32 0, .int .u32 0, .int .u32 0, .int .u32 0, .int .u32 0, .int .u32 0, .int .u32 0, .int .u32 0, .int .u32 0, .int .u32 0, .int .u32 0, .int .u32 0, .int .u32 0, .int .u32 0, .int .u32 0] := Blk.ext (by refine Blk.drew (Blk.alloc ?_ _); exact Blk.new_ (by simp)) hx2
  have hgo : ¬ b = w.heap.size + 1 + 1 := by
    have := hfr2 b o rfl
    simp only [World.size_drew, World.size_alloc] at this
    omega
  clear hx2 hfr2 hb
  go_wp2
  refine wp_loop_rounds 8 ?_
  rw [rounds_succ]
  have q0 := B2.cell 2
  have q1 := B2.cell 3
  have q2 := B2.frozen 2
  have q3 := B2.frozen 3
  simp at q0 q1
  go_wp2_with (go_at_call 26; refine (halves' _ _ (by assumption)).mono ?_; rintro e w' ⟨rfl, rfl⟩)
  clear q0 q1 q2 q3
  have B2 : Blk ((w2.setCell ⟨w.heap.size + 1 + 1, 2, none⟩ (.int .u32 (lo ip))).setCell ⟨w.heap.size + 1 + 1, 3, none⟩ (.int .u32 (hi ip))) (w.heap.size + 1 + 1) 107 #[.int .u32 nr, .int .u32 arch, .int .u32 (lo ip), .int .u32 (hi ip), .int .u32 0, .int .u32 0, .int .u32 0, .int .u32 0, .int .u32 0, .int .u32 0, .int .u32 0, .int .u32 0, .int .u32 0, .int .u32 0, .int .u32 0, .int .u32 0] := (B2.set_ _ _).set_ _ _
  have B1 := (B1.far (p := ⟨w.heap.size + 1 + 1, 2, none⟩) (by dsimp only; omega) (.int .u32 (lo ip))).far (p := ⟨w.heap.size + 1 + 1, 3, none⟩) (by dsimp only; omega) (.int .u32 (hi ip))
  have hy2 := (hy2.set (p := ⟨w.heap.size + 1 + 1, 2, none⟩) (by dsimp only; omega) (.int .u32 (lo ip))).set (p := ⟨w.heap.size + 1 + 1, 3, none⟩) (by dsimp only; omega) (.int .u32 (hi ip))
  have c1 := (World.cell?_setCell_other _ ⟨w.heap.size + 1 + 1, 3, none⟩ _ (.int .u32 (hi ip)) (by simp <;> omega)).trans ((World.cell?_setCell_other _ ⟨w.heap.size + 1 + 1, 2, none⟩ _ (.int .u32 (lo ip)) (by simp <;> omega)).trans c1)
  have c2 := (World.cell?_setCell_other _ ⟨w.heap.size + 1 + 1, 3, none⟩ _ (.int .u32 (hi ip)) (by simp <;> omega)).trans ((World.cell?_setCell_other _ ⟨w.heap.size + 1 + 1, 2, none⟩ _ (.int .u32 (lo ip)) (by simp <;> omega)).trans c2)
  have c3 := (World.cell?_setCell_other _ ⟨w.heap.size + 1 + 1, 3, none⟩ _ (.int .u32 (hi ip)) (by simp <;> omega)).trans ((World.cell?_setCell_other _ ⟨w.heap.size + 1 + 1, 2, none⟩ _ (.int .u32 (lo ip)) (by simp <;> omega)).trans c3)
  have c4 := (World.cell?_setCell_other _ ⟨w.heap.size + 1 + 1, 3, none⟩ _ (.int .u32 (hi ip)) (by simp <;> omega)).trans ((World.cell?_setCell_other _ ⟨w.heap.size + 1 + 1, 2, none⟩ _ (.int .u32 (lo ip)) (by simp <;> omega)).trans c4)
  have c5 := (World.cell?_setCell_other _ ⟨w.heap.size + 1 + 1, 3, none⟩ _ (.int .u32 (hi ip)) (by simp <;> omega)).trans ((World.cell?_setCell_other _ ⟨w.heap.size + 1 + 1, 2, none⟩ _ (.int .u32 (lo ip)) (by simp <;> omega)).trans c5)
  have c6 := (World.cell?_setCell_other _ ⟨w.heap.size + 1 + 1, 3, none⟩ _ (.int .u32 (hi ip)) (by simp <;> omega)).trans ((World.cell?_setCell_other _ ⟨w.heap.size + 1 + 1, 2, none⟩ _ (.int .u32 (lo ip)) (by simp <;> omega)).trans c6)
  generalize (w2.setCell ⟨w.heap.size + 1 + 1, 2, none⟩ (.int .u32 (lo ip))).setCell ⟨w.heap.size + 1 + 1, 3, none⟩ (.int .u32 (hi ip)) = w3 at *
  rw [rounds_succ]
  have q0 := B2.cell 4
  have q1 := B2.cell 5
  have q2 := B2.frozen 4
  have q3 := B2.frozen 5
  simp at q0 q1
  go_wp2_with (go_at_call 26; refine (halves' _ _ (by assumption)).mono ?_; rintro e w' ⟨rfl, rfl⟩)
  clear q0 q1 q2 q3
  have B2 : Blk ((w3.setCell ⟨w.heap.size + 1 + 1, 4, none⟩ (.int .u32 (lo a0))).setCell ⟨w.heap.size + 1 + 1, 5, none⟩ (.int .u32 (hi a0))) (w.heap.size + 1 + 1) 107 #[.int .u32 nr, .int .u32 arch, .int .u32 (lo ip), .int .u32 (hi ip), .int .u32 (lo a0), .int .u32 (hi a0), .int .u32 0, .int .u32 0, .int .u32 0, .int .u32 0, .int .u32 0, .int .u32 0, .int .u32 0, .int .u32 0, .int .u32 0, .int .u32 0] := (B2.set_ _ _).set_ _ _
  have B1 := (B1.far (p := ⟨w.heap.size + 1 + 1, 4, none⟩) (by dsimp only; omega) (.int .u32 (lo a0))).far (p := ⟨w.heap.size + 1 + 1, 5, none⟩) (by dsimp only; omega) (.int .u32 (hi a0))
  have hy2 := (hy2.set (p := ⟨w.heap.size + 1 + 1, 4, none⟩) (by dsimp only; omega) (.int .u32 (lo a0))).set (p := ⟨w.heap.size + 1 + 1, 5, none⟩) (by dsimp only; omega) (.int .u32 (hi a0))
  have c2 := (World.cell?_setCell_other _ ⟨w.heap.size + 1 + 1, 5, none⟩ _ (.int .u32 (hi a0)) (by simp <;> omega)).trans ((World.cell?_setCell_other _ ⟨w.heap.size + 1 + 1, 4, none⟩ _ (.int .u32 (lo a0)) (by simp <;> omega)).trans c2)
  have c3 := (World.cell?_setCell_other _ ⟨w.heap.size + 1 + 1, 5, none⟩ _ (.int .u32 (hi a0)) (by simp <;> omega)).trans ((World.cell?_setCell_other _ ⟨w.heap.size + 1 + 1, 4, none⟩ _ (.int .u32 (lo a0)) (by simp <;> omega)).trans c3)
  have c4 := (World.cell?_setCell_other _ ⟨w.heap.size + 1 + 1, 5, none⟩ _ (.int .u32 (hi a0)) (by simp <;> omega)).trans ((World.cell?_setCell_other _ ⟨w.heap.size + 1 + 1, 4, none⟩ _ (.int .u32 (lo a0)) (by simp <;> omega)).trans c4)
  have c5 := (World.cell?_setCell_other _ ⟨w.heap.size + 1 + 1, 5, none⟩ _ (.int .u32 (hi a0)) (by simp <;> omega)).trans ((World.cell?_setCell_other _ ⟨w.heap.size + 1 + 1, 4, none⟩ _ (.int .u32 (lo a0)) (by simp <;> omega)).trans c5)
  have c6 := (World.cell?_setCell_other _ ⟨w.heap.size + 1 + 1, 5, none⟩ _ (.int .u32 (hi a0)) (by simp <;> omega)).trans ((World.cell?_setCell_other _ ⟨w.heap.size + 1 + 1, 4, none⟩ _ (.int .u32 (lo a0)) (by simp <;> omega)).trans c6)
  generalize (w3.setCell ⟨w.heap.size + 1 + 1, 4, none⟩ (.int .u32 (lo a0))).setCell ⟨w.heap.size + 1 + 1, 5, none⟩ (.int .u32 (hi a0)) = w4 at *
  rw [rounds_succ]
  have q0 := B2.cell 6
  have q1 := B2.cell 7
  have q2 := B2.frozen 6
  have q3 := B2.frozen 7
  simp at q0 q1
  go_wp2_with (go_at_call 26; refine (halves' _ _ (by assumption)).mono ?_; rintro e w' ⟨rfl, rfl⟩)
  clear q0 q1 q2 q3
  have B2 : Blk ((w4.setCell ⟨w.heap.size + 1 + 1, 6, none⟩ (.int .u32 (lo a1))).setCell ⟨w.heap.size + 1 + 1, 7, none⟩ (.int .u32 (hi a1))) (w.heap.size + 1 + 1) 107 #[.int .u32 nr, .int .u32 arch, .int .u32 (lo ip), .int .u32 (hi ip), .int .u32 (lo a0), .int .u32 (hi a0), .int .u32 (lo a1), .int .u32 (hi a1), .int .u32 0, .int .u32 0, .int .u32 0, .int .u32 0, .int .u32 0, .int .u32 0, .int .u32 0, .int .u32 0] := (B2.set_ _ _).set_ _ _
  have B1 := (B1.far (p := ⟨w.heap.size + 1 + 1, 6, none⟩) (by dsimp only; omega) (.int .u32 (lo a1))).far (p := ⟨w.heap.size + 1 + 1, 7, none⟩) (by dsimp only; omega) (.int .u32 (hi a1))
  have hy2 := (hy2.set (p := ⟨w.heap.size + 1 + 1, 6, none⟩) (by dsimp only; omega) (.int .u32 (lo a1))).set (p := ⟨w.heap.size + 1 + 1, 7, none⟩) (by dsimp only; omega) (.int .u32 (hi a1))
  have c3 := (World.cell?_setCell_other _ ⟨w.heap.size + 1 + 1, 7, none⟩ _ (.int .u32 (hi a1)) (by simp <;> omega)).trans ((World.cell?_setCell_other _ ⟨w.heap.size + 1 + 1, 6, none⟩ _ (.int .u32 (lo a1)) (by simp <;> omega)).trans c3)
  have c4 := (World.cell?_setCell_other _ ⟨w.heap.size + 1 + 1, 7, none⟩ _ (.int .u32 (hi a1)) (by simp <;> omega)).trans ((World.cell?_setCell_other _ ⟨w.heap.size + 1 + 1, 6, none⟩ _ (.int .u32 (lo a1)) (by simp <;> omega)).trans c4)
  have c5 := (World.cell?_setCell_other _ ⟨w.heap.size + 1 + 1, 7, none⟩ _ (.int .u32 (hi a1)) (by simp <;> omega)).trans ((World.cell?_setCell_other _ ⟨w.heap.size + 1 + 1, 6, none⟩ _ (.int .u32 (lo a1)) (by simp <;> omega)).trans c5)
  have c6 := (World.cell?_setCell_other _ ⟨w.heap.size + 1 + 1, 7, none⟩ _ (.int .u32 (hi a1)) (by simp <;> omega)).trans ((World.cell?_setCell_other _ ⟨w.heap.size + 1 + 1, 6, none⟩ _ (.int .u32 (lo a1)) (by simp <;> omega)).trans c6)
  generalize (w4.setCell ⟨w.heap.size + 1 + 1, 6, none⟩ (.int .u32 (lo a1))).setCell ⟨w.heap.size + 1 + 1, 7, none⟩ (.int .u32 (hi a1)) = w5 at *
  rw [rounds_succ]
  have q0 := B2.cell 8
  have q1 := B2.cell 9
  have q2 := B2.frozen 8
  have q3 := B2.frozen 9
  simp at q0 q1
  go_wp2_with (go_at_call 26; refine (halves' _ _ (by assumption)).mono ?_; rintro e w' ⟨rfl, rfl⟩)
  clear q0 q1 q2 q3
  have B2 : Blk ((w5.setCell ⟨w.heap.size + 1 + 1, 8, none⟩ (.int .u32 (lo a2))).setCell ⟨w.heap.size + 1 + 1, 9, none⟩ (.int .u32 (hi a2))) (w.heap.size + 1 + 1) 107 #[.int .u32 nr, .int .u32 arch, .int .u32 (lo ip), .int .u32 (hi ip), .int .u32 (lo a0), .int .u32 (hi a0), .int .u32 (lo a1), .int .u32 (hi a1), .int .u32 (lo a2), .int .u32 (hi a2), .int .u32 0, .int .u32 0, .int .u32 0, .int .u32 0, .int .u32 0, .int .u32 0] := (B2.set_ _ _).set_ _ _
  have B1 := (B1.far (p := ⟨w.heap.size + 1 + 1, 8, none⟩) (by dsimp only; omega) (.int .u32 (lo a2))).far (p := ⟨w.heap.size + 1 + 1, 9, none⟩) (by dsimp only; omega) (.int .u32 (hi a2))
  have hy2 := (hy2.set (p := ⟨w.heap.size + 1 + 1, 8, none⟩) (by dsimp only; omega) (.int .u32 (lo a2))).set (p := ⟨w.heap.size + 1 + 1, 9, none⟩) (by dsimp only; omega) (.int .u32 (hi a2))
  have c4 := (World.cell?_setCell_other _ ⟨w.heap.size + 1 + 1, 9, none⟩ _ (.int .u32 (hi a2)) (by simp <;> omega)).trans ((World.cell?_setCell_other _ ⟨w.heap.size + 1 + 1, 8, none⟩ _ (.int .u32 (lo a2)) (by simp <;> omega)).trans c4)
  have c5 := (World.cell?_setCell_other _ ⟨w.heap.size + 1 + 1, 9, none⟩ _ (.int .u32 (hi a2)) (by simp <;> omega)).trans ((World.cell?_setCell_other _ ⟨w.heap.size + 1 + 1, 8, none⟩ _ (.int .u32 (lo a2)) (by simp <;> omega)).trans c5)
  have c6 := (World.cell?_setCell_other _ ⟨w.heap.size + 1 + 1, 9, none⟩ _ (.int .u32 (hi a2)) (by simp <;> omega)).trans ((World.cell?_setCell_other _ ⟨w.heap.size + 1 + 1, 8, none⟩ _ (.int .u32 (lo a2)) (by simp <;> omega)).trans c6)
  generalize (w5.setCell ⟨w.heap.size + 1 + 1, 8, none⟩ (.int .u32 (lo a2))).setCell ⟨w.heap.size + 1 + 1, 9, none⟩ (.int .u32 (hi a2)) = w6 at *
  rw [rounds_succ]
  have q0 := B2.cell 10
  have q1 := B2.cell 11
  have q2 := B2.frozen 10
  have q3 := B2.frozen 11
  simp at q0 q1
  go_wp2_with (go_at_call 26; refine (halves' _ _ (by assumption)).mono ?_; rintro e w' ⟨rfl, rfl⟩)
  clear q0 q1 q2 q3
  have B2 : Blk ((w6.setCell ⟨w.heap.size + 1 + 1, 10, none⟩ (.int .u32 (lo a3))).setCell ⟨w.heap.size + 1 + 1, 11, none⟩ (.int .u32 (hi a3))) (w.heap.size + 1 + 1) 107 #[.int .u32 nr, .int .u32 arch, .int .u32 (lo ip), .int .u32 (hi ip), .int .u32 (lo a0), .int .u32 (hi a0), .int .u32 (lo a1), .int .u32 (hi a1), .int .u32 (lo a2), .int .u32 (hi a2), .int .u32 (lo a3), .int .u32 (hi a3), .int .u32 0, .int .u32 0, .int .u32 0, .int .u32 0] := (B2.set_ _ _).set_ _ _
  have B1 := (B1.far (p := ⟨w.heap.size + 1 + 1, 10, none⟩) (by dsimp only; omega) (.int .u32 (lo a3))).far (p := ⟨w.heap.size + 1 + 1, 11, none⟩) (by dsimp only; omega) (.int .u32 (hi a3))
  have hy2 := (hy2.set (p := ⟨w.heap.size + 1 + 1, 10, none⟩) (by dsimp only; omega) (.int .u32 (lo a3))).set (p := ⟨w.heap.size + 1 + 1, 11, none⟩) (by dsimp only; omega) (.int .u32 (hi a3))
  have c5 := (World.cell?_setCell_other _ ⟨w.heap.size + 1 + 1, 11, none⟩ _ (.int .u32 (hi a3)) (by simp <;> omega)).trans ((World.cell?_setCell_other _ ⟨w.heap.size + 1 + 1, 10, none⟩ _ (.int .u32 (lo a3)) (by simp <;> omega)).trans c5)
  have c6 := (World.cell?_setCell_other _ ⟨w.heap.size + 1 + 1, 11, none⟩ _ (.int .u32 (hi a3)) (by simp <;> omega)).trans ((World.cell?_setCell_other _ ⟨w.heap.size + 1 + 1, 10, none⟩ _ (.int .u32 (lo a3)) (by simp <;> omega)).trans c6)
  generalize (w6.setCell ⟨w.heap.size + 1 + 1, 10, none⟩ (.int .u32 (lo a3))).setCell ⟨w.heap.size + 1 + 1, 11, none⟩ (.int .u32 (hi a3)) = w7 at *
  rw [rounds_succ]
  have q0 := B2.cell 12
  have q1 := B2.cell 13
  have q2 := B2.frozen 12
  have q3 := B2.frozen 13
  simp at q0 q1
  go_wp2_with (go_at_call 26; refine (halves' _ _ (by assumption)).mono ?_; rintro e w' ⟨rfl, rfl⟩)
  clear q0 q1 q2 q3
  have B2 : Blk ((w7.setCell ⟨w.heap.size + 1 + 1, 12, none⟩ (.int .u32 (lo a4))).setCell ⟨w.heap.size + 1 + 1, 13, none⟩ (.int .u32 (hi a4))) (w.heap.size + 1 + 1) 107 #[.int .u32 nr, .int .u32 arch, .int .u32 (lo ip), .int .u32 (hi ip), .int .u32 (lo a0), .int .u32 (hi a0), .int .u32 (lo a1), .int .u32 (hi a1), .int .u32 (lo a2), .int .u32 (hi a2), .int .u32 (lo a3), .int .u32 (hi a3), .int .u32 (lo a4), .int .u32 (hi a4), .int .u32 0, .int .u32 0] := (B2.set_ _ _).set_ _ _
  have B1 := (B1.far (p := ⟨w.heap.size + 1 + 1, 12, none⟩) (by dsimp only; omega) (.int .u32 (lo a4))).far (p := ⟨w.heap.size + 1 + 1, 13, none⟩) (by dsimp only; omega) (.int .u32 (hi a4))
  have hy2 := (hy2.set (p := ⟨w.heap.size + 1 + 1, 12, none⟩) (by dsimp only; omega) (.int .u32 (lo a4))).set (p := ⟨w.heap.size + 1 + 1, 13, none⟩) (by dsimp only; omega) (.int .u32 (hi a4))
  have c6 := (World.cell?_setCell_other _ ⟨w.heap.size + 1 + 1, 13, none⟩ _ (.int .u32 (hi a4)) (by simp <;> omega)).trans ((World.cell?_setCell_other _ ⟨w.heap.size + 1 + 1, 12, none⟩ _ (.int .u32 (lo a4)) (by simp <;> omega)).trans c6)
  generalize (w7.setCell ⟨w.heap.size + 1 + 1, 12, none⟩ (.int .u32 (lo a4))).setCell ⟨w.heap.size + 1 + 1, 13, none⟩ (.int .u32 (hi a4)) = w8 at *
  rw [rounds_succ]
  have q0 := B2.cell 14
  have q1 := B2.cell 15
  have q2 := B2.frozen 14
  have q3 := B2.frozen 15
  simp at q0 q1
  go_wp2_with (go_at_call 26; refine (halves' _ _ (by assumption)).mono ?_; rintro e w' ⟨rfl, rfl⟩)
  clear q0 q1 q2 q3
  have B2 : Blk ((w8.setCell ⟨w.heap.size + 1 + 1, 14, none⟩ (.int .u32 (lo a5))).setCell ⟨w.heap.size + 1 + 1, 15, none⟩ (.int .u32 (hi a5))) (w.heap.size + 1 + 1) 107 #[.int .u32 nr, .int .u32 arch, .int .u32 (lo ip), .int .u32 (hi ip), .int .u32 (lo a0), .int .u32 (hi a0), .int .u32 (lo a1), .int .u32 (hi a1), .int .u32 (lo a2), .int .u32 (hi a2), .int .u32 (lo a3), .int .u32 (hi a3), .int .u32 (lo a4), .int .u32 (hi a4), .int .u32 (lo a5), .int .u32 (hi a5)] := (B2.set_ _ _).set_ _ _
  have B1 := (B1.far (p := ⟨w.heap.size + 1 + 1, 14, none⟩) (by dsimp only; omega) (.int .u32 (lo a5))).far (p := ⟨w.heap.size + 1 + 1, 15, none⟩) (by dsimp only; omega) (.int .u32 (hi a5))
  have hy2 := (hy2.set (p := ⟨w.heap.size + 1 + 1, 14, none⟩) (by dsimp only; omega) (.int .u32 (lo a5))).set (p := ⟨w.heap.size + 1 + 1, 15, none⟩) (by dsimp only; omega) (.int .u32 (hi a5))
  generalize (w8.setCell ⟨w.heap.size + 1 + 1, 14, none⟩ (.int .u32 (lo a5))).setCell ⟨w.heap.size + 1 + 1, 15, none⟩ (.int .u32 (hi a5)) = w9 at *
  rw [rounds_succ]
  go_wp2_with (first | (refine wpList_load_blk rfl 107 (.tmp 3) rfl _ _ _ _ rfl B2 Try.underlying107 rfl (by kernel_rfl) ?_) | (refine wpList_store_all rfl 107 (.tmp 2) (.tmp 36) rfl _ _ _ _ rfl rfl B1 rfl (by kernel_rfl) (by simp [Value.oneCell']) ?_; intro wz Bz hgz))
  refine bodyPost_ret (results_blk1 rfl _ _ _ _ _ _ rfl Bz Try.underlying107 rfl (by kernel_rfl)) rfl ⟨rfl, hy2.grown hgz (fun k e => by cases e; omega)⟩
end Go.Proofs.Ytlicndonhmcmmaa
