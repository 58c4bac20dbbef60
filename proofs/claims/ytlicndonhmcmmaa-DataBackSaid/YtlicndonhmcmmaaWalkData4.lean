import Derived.Test.YtlicndonhmcmmaaData7
import Derived.Test.YtlicndonhmcmmaaDataEq
namespace Go.Proofs.Ytlicndonhmcmmaa
open Go.RowKit Go.ChangeShapes Go.WideShapes
set_option linter.unusedVariables false

set_option maxRecDepth 100000 in
theorem dataBack_walk (d : Dat) (hd : d.ok) (A : Option Addr) (n c : Nat) (xs : List Int) (hn : xs.length = n) (hm : n ≤ c ∧ c ≤ maxLen) (hB : Byt xs) {W : World} (hM : InM W A (nums .u8 xs)) (_ : World) :
    Calls Try.prog 15 #[d.val, .slice A n c] W fun e w' => e = .returned (.bool true) ∧ Ext W w' := by
  clear hm
  have HA := Lib.hid (fun W : World => awake03 W)
  by_cases t1 : (100 : Int) < n
  · clear hd hM hn
    obtain ⟨nr, arch, ip, b0, b1, b2, b3, b4, b5⟩ := d
    go_enter Try.func15, Try.ntmps15
    go_wp2_with fail
    refine (HA.out _).mono ?_
    rintro e w0 ⟨rfl, hx0⟩
    go_wp2
    go_ret
    exact ⟨rfl, ((Ext.refl W).alloc _).trans hx0⟩
  have b1 : n ≤ 100 := by omega
  have HP := Lib.hid (fun W : World => print_any d hd W)
  have hl : d.bytes.length = 64 := prB_length d.words
  have HQ := Lib.hid (fun (W : World) (A : Option Addr) (c' : Nat) (hm : InM W A (nums .u8 d.bytes)) => parse_yes A c' d.bytes W hl (prB_byt d.words) hm)
  rw [parse_bytes d hd] at HQ
  have heq := fun W : World => dat_neq d W
  by_cases h : n = 64
  · subst h
    have HR := Lib.hid (fun (W' : World) (hx : Ext W W') => parse_yes A c xs W' hn hB (hM.ext hx))
    have HS := Lib.hid (fun W : World => print_any (parseD xs) (parseD_ok hB) W)
    rw [bytes_parse xs hB hn] at HS
    have HT := Lib.hid (fun (W' : World) (B : Option Addr) (c' : Nat) (hx : Ext W W') (hm : InM W' B (nums .u8 xs)) => show Calls Try.prog 40 #[.slice B 64 c', .slice A 64 c] W' (fun e w' => e = .returned (.bool true) ∧ W' = w') from (wordsSame B A 64 c' 64 c xs xs W' hn hn hB hB hm (hM.ext hx)).mono fun e w h => ⟨by rw [h.1, decide_eq_true rfl], h.2⟩)
    generalize parseD xs = y at *
    generalize d.bytes = bs at *
    clear hn hM hl hd
    obtain ⟨nr, arch, ip, b0, b1, b2, b3, b4, b5⟩ := d
    obtain ⟨nr', arch', ip', b0', b1', b2', b3', b4', b5'⟩ := y
    go_enter Try.func15, Try.ntmps15
    go_wp2_with fail
    refine (HA.out _).mono ?_
    rintro e w0 ⟨rfl, hx0⟩
    have B := (Blk.new W _ _).ext hx0
    have hx := ((Ext.refl W).alloc _).trans hx0
    clear hx0
    go_wp2_with (refine wpList_load_blk rfl 45 (.tmp _) rfl _ _ _ _ rfl B Try.underlying45 rfl (by kernel_rfl) ?_)
    refine (HP.out _).mono ?_
    rintro e w1 ⟨P, c1, rfl, hown, hx1⟩
    replace B := B.ext hx1
    replace hx := hx.trans hx1
    clear hx1
    go_wp2_with fail
    refine (HQ.out _ _ _ (own_inM hown)).mono ?_
    rintro e w2 ⟨rfl, hx1⟩
    replace B := B.ext hx1
    replace hx := hx.trans hx1
    clear hx1
    go_wp2_with fail
    refine (HR.out _ (hx.alloc _)).mono ?_
    rintro e w3 ⟨rfl, hx1⟩
    have Bx := (Blk.new w2 45 #[.int .u32 nr, .int .u32 arch, .int .u64 ip, .int .u64 b0, .int .u64 b1, .int .u64 b2, .int .u64 b3, .int .u64 b4, .int .u64 b5]).ext hx1
    replace B := (B.alloc _).ext hx1
    replace hx := (hx.alloc _).trans hx1
    clear hx1
    have hy := hx.alloc (.cells #[.int .u32 nr', .int .u32 arch', .int .u64 ip', .int .u64 b0', .int .u64 b1', .int .u64 b2', .int .u64 b3', .int .u64 b4', .int .u64 b5'] 45)
    have By := Blk.new w3 45 #[.int .u32 nr', .int .u32 arch', .int .u64 ip', .int .u64 b0', .int .u64 b1', .int .u64 b2', .int .u64 b3', .int .u64 b4', .int .u64 b5']
    replace B := B.alloc (.cells #[.int .u32 nr', .int .u32 arch', .int .u64 ip', .int .u64 b0', .int .u64 b1', .int .u64 b2', .int .u64 b3', .int .u64 b4', .int .u64 b5'] 45)
    replace Bx := Bx.alloc (.cells #[.int .u32 nr', .int .u32 arch', .int .u64 ip', .int .u64 b0', .int .u64 b1', .int .u64 b2', .int .u64 b3', .int .u64 b4', .int .u64 b5'] 45)
    clear hx
    have x0 : (w3.alloc (.cells #[.int .u32 nr', .int .u32 arch', .int .u64 ip', .int .u64 b0', .int .u64 b1', .int .u64 b2', .int .u64 b3', .int .u64 b4', .int .u64 b5'] 45)).cell? ⟨w2.heap.size, 0, none⟩ = some (.int .u32 nr) := by rw [Bx.cell]; rfl
    have x1 : (w3.alloc (.cells #[.int .u32 nr', .int .u32 arch', .int .u64 ip', .int .u64 b0', .int .u64 b1', .int .u64 b2', .int .u64 b3', .int .u64 b4', .int .u64 b5'] 45)).cell? ⟨w2.heap.size, 1, none⟩ = some (.int .u32 arch) := by rw [Bx.cell]; rfl
    have x2 : (w3.alloc (.cells #[.int .u32 nr', .int .u32 arch', .int .u64 ip', .int .u64 b0', .int .u64 b1', .int .u64 b2', .int .u64 b3', .int .u64 b4', .int .u64 b5'] 45)).cell? ⟨w2.heap.size, 2, none⟩ = some (.int .u64 ip) := by rw [Bx.cell]; rfl
    have x3 : (w3.alloc (.cells #[.int .u32 nr', .int .u32 arch', .int .u64 ip', .int .u64 b0', .int .u64 b1', .int .u64 b2', .int .u64 b3', .int .u64 b4', .int .u64 b5'] 45)).cell? ⟨w2.heap.size, 3, none⟩ = some (.int .u64 b0) := by rw [Bx.cell]; rfl
    have x4 : (w3.alloc (.cells #[.int .u32 nr', .int .u32 arch', .int .u64 ip', .int .u64 b0', .int .u64 b1', .int .u64 b2', .int .u64 b3', .int .u64 b4', .int .u64 b5'] 45)).cell? ⟨w2.heap.size, 4, none⟩ = some (.int .u64 b1) := by rw [Bx.cell]; rfl
    have x5 : (w3.alloc (.cells #[.int .u32 nr', .int .u32 arch', .int .u64 ip', .int .u64 b0', .int .u64 b1', .int .u64 b2', .int .u64 b3', .int .u64 b4', .int .u64 b5'] 45)).cell? ⟨w2.heap.size, 5, none⟩ = some (.int .u64 b2) := by rw [Bx.cell]; rfl
    have x6 : (w3.alloc (.cells #[.int .u32 nr', .int .u32 arch', .int .u64 ip', .int .u64 b0', .int .u64 b1', .int .u64 b2', .int .u64 b3', .int .u64 b4', .int .u64 b5'] 45)).cell? ⟨w2.heap.size, 6, none⟩ = some (.int .u64 b3) := by rw [Bx.cell]; rfl
    have x7 : (w3.alloc (.cells #[.int .u32 nr', .int .u32 arch', .int .u64 ip', .int .u64 b0', .int .u64 b1', .int .u64 b2', .int .u64 b3', .int .u64 b4', .int .u64 b5'] 45)).cell? ⟨w2.heap.size, 7, none⟩ = some (.int .u64 b4) := by rw [Bx.cell]; rfl
    have x8 : (w3.alloc (.cells #[.int .u32 nr', .int .u32 arch', .int .u64 ip', .int .u64 b0', .int .u64 b1', .int .u64 b2', .int .u64 b3', .int .u64 b4', .int .u64 b5'] 45)).cell? ⟨w2.heap.size, 8, none⟩ = some (.int .u64 b5) := by rw [Bx.cell]; rfl
    have y0 : (w3.alloc (.cells #[.int .u32 nr', .int .u32 arch', .int .u64 ip', .int .u64 b0', .int .u64 b1', .int .u64 b2', .int .u64 b3', .int .u64 b4', .int .u64 b5'] 45)).cell? ⟨W.heap.size, 0, none⟩ = some (.int .u32 nr) := by rw [B.cell]; rfl
    have y1 : (w3.alloc (.cells #[.int .u32 nr', .int .u32 arch', .int .u64 ip', .int .u64 b0', .int .u64 b1', .int .u64 b2', .int .u64 b3', .int .u64 b4', .int .u64 b5'] 45)).cell? ⟨W.heap.size, 1, none⟩ = some (.int .u32 arch) := by rw [B.cell]; rfl
    have y2 : (w3.alloc (.cells #[.int .u32 nr', .int .u32 arch', .int .u64 ip', .int .u64 b0', .int .u64 b1', .int .u64 b2', .int .u64 b3', .int .u64 b4', .int .u64 b5'] 45)).cell? ⟨W.heap.size, 2, none⟩ = some (.int .u64 ip) := by rw [B.cell]; rfl
    have y3 : (w3.alloc (.cells #[.int .u32 nr', .int .u32 arch', .int .u64 ip', .int .u64 b0', .int .u64 b1', .int .u64 b2', .int .u64 b3', .int .u64 b4', .int .u64 b5'] 45)).cell? ⟨W.heap.size, 3, none⟩ = some (.int .u64 b0) := by rw [B.cell]; rfl
    have y4 : (w3.alloc (.cells #[.int .u32 nr', .int .u32 arch', .int .u64 ip', .int .u64 b0', .int .u64 b1', .int .u64 b2', .int .u64 b3', .int .u64 b4', .int .u64 b5'] 45)).cell? ⟨W.heap.size, 4, none⟩ = some (.int .u64 b1) := by rw [B.cell]; rfl
    have y5 : (w3.alloc (.cells #[.int .u32 nr', .int .u32 arch', .int .u64 ip', .int .u64 b0', .int .u64 b1', .int .u64 b2', .int .u64 b3', .int .u64 b4', .int .u64 b5'] 45)).cell? ⟨W.heap.size, 5, none⟩ = some (.int .u64 b2) := by rw [B.cell]; rfl
    have y6 : (w3.alloc (.cells #[.int .u32 nr', .int .u32 arch', .int .u64 ip', .int .u64 b0', .int .u64 b1', .int .u64 b2', .int .u64 b3', .int .u64 b4', .int .u64 b5'] 45)).cell? ⟨W.heap.size, 6, none⟩ = some (.int .u64 b3) := by rw [B.cell]; rfl
    have y7 : (w3.alloc (.cells #[.int .u32 nr', .int .u32 arch', .int .u64 ip', .int .u64 b0', .int .u64 b1', .int .u64 b2', .int .u64 b3', .int .u64 b4', .int .u64 b5'] 45)).cell? ⟨W.heap.size, 7, none⟩ = some (.int .u64 b4) := by rw [B.cell]; rfl
    have y8 : (w3.alloc (.cells #[.int .u32 nr', .int .u32 arch', .int .u64 ip', .int .u64 b0', .int .u64 b1', .int .u64 b2', .int .u64 b3', .int .u64 b4', .int .u64 b5'] 45)).cell? ⟨W.heap.size, 8, none⟩ = some (.int .u64 b5) := by rw [B.cell]; rfl
    have z0 : (w3.alloc (.cells #[.int .u32 nr', .int .u32 arch', .int .u64 ip', .int .u64 b0', .int .u64 b1', .int .u64 b2', .int .u64 b3', .int .u64 b4', .int .u64 b5'] 45)).cell? ⟨w3.heap.size, 0, none⟩ = some (.int .u32 nr') := by rw [By.cell]; rfl
    have z1 : (w3.alloc (.cells #[.int .u32 nr', .int .u32 arch', .int .u64 ip', .int .u64 b0', .int .u64 b1', .int .u64 b2', .int .u64 b3', .int .u64 b4', .int .u64 b5'] 45)).cell? ⟨w3.heap.size, 1, none⟩ = some (.int .u32 arch') := by rw [By.cell]; rfl
    have z2 : (w3.alloc (.cells #[.int .u32 nr', .int .u32 arch', .int .u64 ip', .int .u64 b0', .int .u64 b1', .int .u64 b2', .int .u64 b3', .int .u64 b4', .int .u64 b5'] 45)).cell? ⟨w3.heap.size, 2, none⟩ = some (.int .u64 ip') := by rw [By.cell]; rfl
    have z3 : (w3.alloc (.cells #[.int .u32 nr', .int .u32 arch', .int .u64 ip', .int .u64 b0', .int .u64 b1', .int .u64 b2', .int .u64 b3', .int .u64 b4', .int .u64 b5'] 45)).cell? ⟨w3.heap.size, 3, none⟩ = some (.int .u64 b0') := by rw [By.cell]; rfl
    have z4 : (w3.alloc (.cells #[.int .u32 nr', .int .u32 arch', .int .u64 ip', .int .u64 b0', .int .u64 b1', .int .u64 b2', .int .u64 b3', .int .u64 b4', .int .u64 b5'] 45)).cell? ⟨w3.heap.size, 4, none⟩ = some (.int .u64 b1') := by rw [By.cell]; rfl
    have z5 : (w3.alloc (.cells #[.int .u32 nr', .int .u32 arch', .int .u64 ip', .int .u64 b0', .int .u64 b1', .int .u64 b2', .int .u64 b3', .int .u64 b4', .int .u64 b5'] 45)).cell? ⟨w3.heap.size, 5, none⟩ = some (.int .u64 b2') := by rw [By.cell]; rfl
    have z6 : (w3.alloc (.cells #[.int .u32 nr', .int .u32 arch', .int .u64 ip', .int .u64 b0', .int .u64 b1', .int .u64 b2', .int .u64 b3', .int .u64 b4', .int .u64 b5'] 45)).cell? ⟨w3.heap.size, 6, none⟩ = some (.int .u64 b3') := by rw [By.cell]; rfl
    have z7 : (w3.alloc (.cells #[.int .u32 nr', .int .u32 arch', .int .u64 ip', .int .u64 b0', .int .u64 b1', .int .u64 b2', .int .u64 b3', .int .u64 b4', .int .u64 b5'] 45)).cell? ⟨w3.heap.size, 7, none⟩ = some (.int .u64 b4') := by rw [By.cell]; rfl
    have z8 : (w3.alloc (.cells #[.int .u32 nr', .int .u32 arch', .int .u64 ip', .int .u64 b0', .int .u64 b1', .int .u64 b2', .int .u64 b3', .int .u64 b4', .int .u64 b5'] 45)).cell? ⟨w3.heap.size, 8, none⟩ = some (.int .u64 b5') := by rw [By.cell]; rfl
    go_wp2_with fail
    refine (HS.out _).mono ?_
    rintro e w4 ⟨P2, c2, rfl, hown2, hx2⟩
    go_wp2_with fail
    refine (keep (HT.out _ _ _ (hy.trans hx2) (own_inM hown2))).mono ?_
    rintro e w5 ⟨rfl, hx3⟩
    go_wp2
    go_ret
    exact ⟨rfl, (hy.trans hx2).trans hx3⟩
  · have d1 : ((n : Int) == 64) = false := by simp; omega
    have d2 : ((n : Int) != 64) = true := by simp; omega
    have HR := Lib.hid (fun W' : World => parse_no A n c W' h (by omega))
    generalize zeroD = y at *
    generalize d.bytes = bs at *
    clear hn hM hl hd
    obtain ⟨nr, arch, ip, b0, b1, b2, b3, b4, b5⟩ := d
    obtain ⟨nr', arch', ip', b0', b1', b2', b3', b4', b5'⟩ := y
    go_enter Try.func15, Try.ntmps15
    go_wp2_with fail
    refine (HA.out _).mono ?_
    rintro e w0 ⟨rfl, hx0⟩
    have B := (Blk.new W _ _).ext hx0
    have hx := ((Ext.refl W).alloc _).trans hx0
    clear hx0
    go_wp2_with (refine wpList_load_blk rfl 45 (.tmp _) rfl _ _ _ _ rfl B Try.underlying45 rfl (by kernel_rfl) ?_)
    refine (HP.out _).mono ?_
    rintro e w1 ⟨P, c1, rfl, hown, hx1⟩
    replace B := B.ext hx1
    replace hx := hx.trans hx1
    clear hx1
    go_wp2_with fail
    refine (HQ.out _ _ _ (own_inM hown)).mono ?_
    rintro e w2 ⟨rfl, hx1⟩
    replace B := B.ext hx1
    replace hx := hx.trans hx1
    clear hx1
    go_wp2_with fail
    refine (HR.out _).mono ?_
    rintro e w3 ⟨rfl, hx1⟩
    have Bx := (Blk.new w2 45 #[.int .u32 nr, .int .u32 arch, .int .u64 ip, .int .u64 b0, .int .u64 b1, .int .u64 b2, .int .u64 b3, .int .u64 b4, .int .u64 b5]).ext hx1
    replace B := (B.alloc _).ext hx1
    replace hx := (hx.alloc _).trans hx1
    clear hx1
    have hy := hx.alloc (.cells #[.int .u32 nr', .int .u32 arch', .int .u64 ip', .int .u64 b0', .int .u64 b1', .int .u64 b2', .int .u64 b3', .int .u64 b4', .int .u64 b5'] 45)
    replace B := B.alloc (.cells #[.int .u32 nr', .int .u32 arch', .int .u64 ip', .int .u64 b0', .int .u64 b1', .int .u64 b2', .int .u64 b3', .int .u64 b4', .int .u64 b5'] 45)
    replace Bx := Bx.alloc (.cells #[.int .u32 nr', .int .u32 arch', .int .u64 ip', .int .u64 b0', .int .u64 b1', .int .u64 b2', .int .u64 b3', .int .u64 b4', .int .u64 b5'] 45)
    clear hx
    have x0 : (w3.alloc (.cells #[.int .u32 nr', .int .u32 arch', .int .u64 ip', .int .u64 b0', .int .u64 b1', .int .u64 b2', .int .u64 b3', .int .u64 b4', .int .u64 b5'] 45)).cell? ⟨w2.heap.size, 0, none⟩ = some (.int .u32 nr) := by rw [Bx.cell]; rfl
    have x1 : (w3.alloc (.cells #[.int .u32 nr', .int .u32 arch', .int .u64 ip', .int .u64 b0', .int .u64 b1', .int .u64 b2', .int .u64 b3', .int .u64 b4', .int .u64 b5'] 45)).cell? ⟨w2.heap.size, 1, none⟩ = some (.int .u32 arch) := by rw [Bx.cell]; rfl
    have x2 : (w3.alloc (.cells #[.int .u32 nr', .int .u32 arch', .int .u64 ip', .int .u64 b0', .int .u64 b1', .int .u64 b2', .int .u64 b3', .int .u64 b4', .int .u64 b5'] 45)).cell? ⟨w2.heap.size, 2, none⟩ = some (.int .u64 ip) := by rw [Bx.cell]; rfl
    have x3 : (w3.alloc (.cells #[.int .u32 nr', .int .u32 arch', .int .u64 ip', .int .u64 b0', .int .u64 b1', .int .u64 b2', .int .u64 b3', .int .u64 b4', .int .u64 b5'] 45)).cell? ⟨w2.heap.size, 3, none⟩ = some (.int .u64 b0) := by rw [Bx.cell]; rfl
    have x4 : (w3.alloc (.cells #[.int .u32 nr', .int .u32 arch', .int .u64 ip', .int .u64 b0', .int .u64 b1', .int .u64 b2', .int .u64 b3', .int .u64 b4', .int .u64 b5'] 45)).cell? ⟨w2.heap.size, 4, none⟩ = some (.int .u64 b1) := by rw [Bx.cell]; rfl
    have x5 : (w3.alloc (.cells #[.int .u32 nr', .int .u32 arch', .int .u64 ip', .int .u64 b0', .int .u64 b1', .int .u64 b2', .int .u64 b3', .int .u64 b4', .int .u64 b5'] 45)).cell? ⟨w2.heap.size, 5, none⟩ = some (.int .u64 b2) := by rw [Bx.cell]; rfl
    have x6 : (w3.alloc (.cells #[.int .u32 nr', .int .u32 arch', .int .u64 ip', .int .u64 b0', .int .u64 b1', .int .u64 b2', .int .u64 b3', .int .u64 b4', .int .u64 b5'] 45)).cell? ⟨w2.heap.size, 6, none⟩ = some (.int .u64 b3) := by rw [Bx.cell]; rfl
    have x7 : (w3.alloc (.cells #[.int .u32 nr', .int .u32 arch', .int .u64 ip', .int .u64 b0', .int .u64 b1', .int .u64 b2', .int .u64 b3', .int .u64 b4', .int .u64 b5'] 45)).cell? ⟨w2.heap.size, 7, none⟩ = some (.int .u64 b4) := by rw [Bx.cell]; rfl
    have x8 : (w3.alloc (.cells #[.int .u32 nr', .int .u32 arch', .int .u64 ip', .int .u64 b0', .int .u64 b1', .int .u64 b2', .int .u64 b3', .int .u64 b4', .int .u64 b5'] 45)).cell? ⟨w2.heap.size, 8, none⟩ = some (.int .u64 b5) := by rw [Bx.cell]; rfl
    have y0 : (w3.alloc (.cells #[.int .u32 nr', .int .u32 arch', .int .u64 ip', .int .u64 b0', .int .u64 b1', .int .u64 b2', .int .u64 b3', .int .u64 b4', .int .u64 b5'] 45)).cell? ⟨W.heap.size, 0, none⟩ = some (.int .u32 nr) := by rw [B.cell]; rfl
    have y1 : (w3.alloc (.cells #[.int .u32 nr', .int .u32 arch', .int .u64 ip', .int .u64 b0', .int .u64 b1', .int .u64 b2', .int .u64 b3', .int .u64 b4', .int .u64 b5'] 45)).cell? ⟨W.heap.size, 1, none⟩ = some (.int .u32 arch) := by rw [B.cell]; rfl
    have y2 : (w3.alloc (.cells #[.int .u32 nr', .int .u32 arch', .int .u64 ip', .int .u64 b0', .int .u64 b1', .int .u64 b2', .int .u64 b3', .int .u64 b4', .int .u64 b5'] 45)).cell? ⟨W.heap.size, 2, none⟩ = some (.int .u64 ip) := by rw [B.cell]; rfl
    have y3 : (w3.alloc (.cells #[.int .u32 nr', .int .u32 arch', .int .u64 ip', .int .u64 b0', .int .u64 b1', .int .u64 b2', .int .u64 b3', .int .u64 b4', .int .u64 b5'] 45)).cell? ⟨W.heap.size, 3, none⟩ = some (.int .u64 b0) := by rw [B.cell]; rfl
    have y4 : (w3.alloc (.cells #[.int .u32 nr', .int .u32 arch', .int .u64 ip', .int .u64 b0', .int .u64 b1', .int .u64 b2', .int .u64 b3', .int .u64 b4', .int .u64 b5'] 45)).cell? ⟨W.heap.size, 4, none⟩ = some (.int .u64 b1) := by rw [B.cell]; rfl
    have y5 : (w3.alloc (.cells #[.int .u32 nr', .int .u32 arch', .int .u64 ip', .int .u64 b0', .int .u64 b1', .int .u64 b2', .int .u64 b3', .int .u64 b4', .int .u64 b5'] 45)).cell? ⟨W.heap.size, 5, none⟩ = some (.int .u64 b2) := by rw [B.cell]; rfl
    have y6 : (w3.alloc (.cells #[.int .u32 nr', .int .u32 arch', .int .u64 ip', .int .u64 b0', .int .u64 b1', .int .u64 b2', .int .u64 b3', .int .u64 b4', .int .u64 b5'] 45)).cell? ⟨W.heap.size, 6, none⟩ = some (.int .u64 b3) := by rw [B.cell]; rfl
    have y7 : (w3.alloc (.cells #[.int .u32 nr', .int .u32 arch', .int .u64 ip', .int .u64 b0', .int .u64 b1', .int .u64 b2', .int .u64 b3', .int .u64 b4', .int .u64 b5'] 45)).cell? ⟨W.heap.size, 7, none⟩ = some (.int .u64 b4) := by rw [B.cell]; rfl
    have y8 : (w3.alloc (.cells #[.int .u32 nr', .int .u32 arch', .int .u64 ip', .int .u64 b0', .int .u64 b1', .int .u64 b2', .int .u64 b3', .int .u64 b4', .int .u64 b5'] 45)).cell? ⟨W.heap.size, 8, none⟩ = some (.int .u64 b5) := by rw [B.cell]; rfl
    go_wp2
    go_ret
    exact ⟨rfl, hy⟩
end Go.Proofs.Ytlicndonhmcmmaa
