import Derived.Test.YtjlhfmedaandeaaLkB
import Derived.Test.YtjlhfmedaandeaaSym2
/- vestibulelaw27.awake. -/
namespace Go.Proofs.Ytjlhfmedaandeaa
open Go.RowKit Go.ChangeShapes Go.WideShapes
set_option linter.unusedVariables false
set_option linter.unusedSimpArgs false

def row3 : List Sy := [⟨21, 7, 1, 2⟩, ⟨6, 1, 0, 0⟩, ⟨6, 2, 0, 0⟩]
def rowU (k : Nat) : List Sy := ⟨21, 7, 1, 300⟩ :: List.replicate k ⟨32, 0, 0, 0⟩
def rowF : List Sy := rowU 299 ++ [⟨6, 2, 0, 0⟩]
theorem rowU_succ (k : Nat) : rowU (k + 1) = rowU k ++ [⟨32, 0, 0, 0⟩] := by unfold rowU; rw [List.replicate_succ']; rfl
theorem rowU_len (k : Nat) : (rowU k).length = k + 1 := by simp [rowU]
theorem row3_link : (lall row3).bk.reverse = [⟨21, 0, 1, 7⟩, ⟨6, 0, 0, 1⟩, ⟨6, 0, 0, 2⟩] := by decide +kernel
theorem rowF_len : rowF.length = 301 := by decide +kernel
theorem rowF_may : mayL rowF = true := by decide +kernel
theorem rowF_bk : (lall rowF).bk.length = 303 ∧ (lall rowF).far = 1 ∧ (lall rowF).bk.reverse.take 3 = [⟨21, 0, 1, 7⟩, ⟨5, 0, 0, 1⟩, ⟨5, 0, 0, 299⟩] := by decide +kernel
theorem sy_ok_of {ps : List Sy} (h : (ps.all fun i => decide (0 ≤ i.code) && decide (i.code < 65536) && decide (0 ≤ i.k) && decide (i.k < 4294967296) && decide (-9223372036854775808 ≤ i.th) && decide (i.th < 9223372036854775808) && decide (-9223372036854775808 ≤ i.el) && decide (i.el < 9223372036854775808)) = true) : ∀ i ∈ ps, i.ok := fun i hi => by
  have := (List.all_eq_true.1 h) i hi
  simp only [Bool.and_eq_true, decide_eq_true_eq] at this
  obtain ⟨⟨⟨⟨⟨⟨⟨a, b⟩, c⟩, d⟩, e⟩, f⟩, g⟩, k⟩ := this
  exact ⟨⟨a, b⟩, ⟨c, d⟩, ⟨e, f⟩, ⟨g, k⟩⟩
theorem row3_ok : ∀ i ∈ row3, i.ok := sy_ok_of (by decide +kernel)
theorem rowF_ok : ∀ i ∈ rowF, i.ok := sy_ok_of (by decide +kernel)
theorem pc3 (a b c : Ins) (tl : List Ins) (more : List Value) (j : Nat) (hj : j < 12) : ((pc (a :: b :: c :: tl) ++ more).toArray)[j]? = (a.cells.toList ++ (b.cells.toList ++ c.cells.toList))[j]? := by
  rw [List.getElem?_toArray, pc_cons, pc_cons, pc_cons, ← List.append_assoc b.cells.toList, ← List.append_assoc a.cells.toList, List.append_assoc, List.getElem?_append_left (by simp [Ins.cells]; omega)]
set_option maxHeartbeats 4000000 in
set_option maxRecDepth 100000 in
theorem awake27 (W : World) : Calls Try.prog 23 #[] W fun e w' => e = .returned (.bool true) ∧ Ext W w' := by
  obtain ⟨i0, hi, hz0, hz1, hz2⟩ := info_parts info_sym
  have HI := Lib.hid hi; have HZ0 := Lib.hid hz0; have HZ1 := Lib.hid hz1; have HZ2 := Lib.hid hz2
  clear hi hz0 hz1 hz2
  have hb3 := Blk.new W 32 #[.int .u16 21, .int .u32 7, .int .i64 1, .int .i64 2, .int .u16 6, .int .u32 1, .int .i64 0, .int .i64 0, .int .u16 6, .int .u32 2, .int .i64 0, .int .i64 0]
  have hx3 := (Ext.refl W).alloc (.cells #[.int .u16 21, .int .u32 7, .int .i64 1, .int .i64 2, .int .u16 6, .int .u32 1, .int .i64 0, .int .i64 0, .int .u16 6, .int .u32 2, .int .i64 0, .int .i64 0] 32)
  have H3 := Lib.hid (by
    have h := linkYesI (some ⟨W.heap.size, 0, none⟩) 3 3 row3 _ rfl row3_ok (InM.ofBlk (xs := sc row3) hb3 rfl) (by decide +kernel) (by decide +kernel)
    rw [row3_link, show (lall row3).bk.length = 3 by decide +kernel] at h
    exact h)
  have HF := Lib.hid (fun A c W' hW => (by
    have h := linkYesI A 301 c rowF W' rowF_len rowF_ok hW rowF_may (by have := rowF_bk.1; omega)
    rw [rowF_bk.1] at h
    exact h))
  have HFAR := Lib.hid (fun A c W' hW => (by
    have h := linkFar A 301 c rowF W' rowF_len rowF_ok (by decide) hW
    rw [show farT rowF = 1 from by unfold farT; rw [if_pos rowF_may]; exact rowF_bk.2.1] at h
    exact h))
  have HN := Lib.hid (fun W' => linkNoI none 0 0 [] W' rfl (by simp) (by decide) (InM.nil _ _) (by decide))
  have HQ3 := Lib.hid rowF_bk.2.2
  have HQL := Lib.hid rowF_bk.1
  have HRS := Lib.hid rowU_succ
  have HRU := Lib.hid rowU_len
  have HRF := Lib.hid (fun (W : World) (b n m c : Nat) (A : Option Addr) (h : W.ownsRow b 32 4 (.slice A m c) n (sc (rowU 299 ++ [⟨6, 2, 0, 0⟩]))) => (own_inM h : InM W A (sc rowF)))
  generalize (lall rowF).bk = bk at *
  clear hb3
  go_enter Try.func23, Try.ntmps23
  go_wp2_with fail
  refine H3.out.mono ?_
  rintro e w1 ⟨g3, cv3, more3, rfl, hb3, hg3, hx1⟩
  have hxa := hx3.trans hx1
  clear hx3 hx1 H3 hg3
  have hbu := Blk.new w1 32 #[.int .u16 21, .int .u32 7, .int .i64 1, .int .i64 300]
  have hxu := (Ext.refl w1).alloc (.cells #[.int .u16 21, .int .u32 7, .int .i64 1, .int .i64 300] 32)
  have hou : (w1.alloc (.cells #[.int .u16 21, .int .u32 7, .int .i64 1, .int .i64 300] 32)).ownsRow w1.heap.size 32 4 (.slice (some ⟨w1.heap.size, 0, none⟩) 1 1) 1 (sc (rowU 0)) :=
    ⟨rfl, .inr ⟨_, 1, _, rfl, Nat.le_refl _, hbu, Nat.le_refl _, by decide, rfl, rfl⟩⟩
  have B3 := Lib.hid hb3
  have HXA := Lib.hid hxa
  clear hxa
  clear hbu hb3
  go_wp2_with fail
  go_loopw [3, 4] (fun v it wr => ∃ (k : Nat) (A1 : Option Addr) (c1 : Nat), k ≤ 299 ∧ it = .int .i64 k ∧ (v = .slice A1 (k + 1) c1 ∧ wr.ownsRow w1.heap.size 32 4 (.slice A1 (k + 1) c1) (k + 1) (sc (rowU k))) ∧ Ext w1 wr) (fun _ it _ => 299 - (intOf it).toNat)
  case atStart => exact ⟨0, _, _, by omega, rfl, ⟨rfl, hou⟩, hxu⟩
  case round =>
    clear hou hxu
    obtain ⟨k, A1, c1, hk, rfl, ⟨rfl, ho⟩, hy⟩ := hrel
    have HRL := Lib.hid (HRU.out k)
    have HSN := Lib.hid (HRS.out k)
    by_cases hlt : k < 299
    · have k1 : (k : Int) < 299 := by omega
      have k2 : (0 : Int) ≤ k := by omega
      generalize rowU k = ru at *
      have hl1 : (sc ru).length = (k+1) * 4 := by rw [sc_length]; have := HRL.out; omega
      have ho7 := own_ext ho ((Ext.refl wr).alloc (.cells #[.int .u16 32, .int .u32 0, .int .i64 0, .int .i64 0] 32))
      have hy7 := (hy).alloc (.cells #[.int .u16 32, .int .u32 0, .int .i64 0, .int .i64 0] 32)
      have hrow : InM ((wr).alloc (.cells #[.int .u16 32, .int .u32 0, .int .i64 0, .int .i64 0] 32)) (some ⟨(wr).heap.size, 0, none⟩) (sc [⟨32, 0, 0, 0⟩]) := InM.ofBlk (Blk.new _ _ _) rfl
      have hb1 : (k+1) + 1 ≤ 1000000 := by omega
      have hb0 : 24 ≤ 10000 := by decide
      go_wp2_with (refine wpList_app rfl (.tmp 23) (.tmp 25) 22 rfl w1.heap.size 32 i0 _ 4 24 Try.underlying22 HI.out HZ0.out HZ1.out HZ2.out rfl (by decide) A1 ((k+1)) c1 (sc ru) rfl ho7 _ 1 1 (sc [⟨32, 0, 0, 0⟩]) rfl rfl hrow (sc_one _) hb1 hb0 hy7.size ?_; intro A8 c8 w8 ho8 hg8 hzz; have hx8 := hy7.app ho7 (Nat.le_refl _) hg8; rw [← sc_append] at ho8; clear hg8 hzz)
      clear ho7 hy7 hrow hl1 hb0 hb1
      go_roundw
      case rel => exact ⟨k + 1, A8, c8, by omega, by go_num, ⟨rfl, by rw [HSN.out]; exact ho8⟩, hx8⟩
      case measure => simp [intOf]; omega
    · obtain rfl : k = 299 := by omega
      clear HRS HRU HSN
      generalize rowU 299 = ru at *
      have hl1 : (sc ru).length = 300 * 4 := by rw [sc_length]; have := HRL.out; omega
      have ho7 := own_ext ho ((Ext.refl wr).alloc (.cells #[.int .u16 6, .int .u32 2, .int .i64 0, .int .i64 0] 32))
      have hy7 := (hy).alloc (.cells #[.int .u16 6, .int .u32 2, .int .i64 0, .int .i64 0] 32)
      have hrow : InM ((wr).alloc (.cells #[.int .u16 6, .int .u32 2, .int .i64 0, .int .i64 0] 32)) (some ⟨(wr).heap.size, 0, none⟩) (sc [⟨6, 2, 0, 0⟩]) := InM.ofBlk (Blk.new _ _ _) rfl
      have hb1 : 300 + 1 ≤ 1000000 := by omega
      have hb0 : 24 ≤ 10000 := by decide
      go_wp2_with (refine wpList_app rfl (.tmp 27) (.tmp 29) 22 rfl w1.heap.size 32 i0 _ 4 24 Try.underlying22 HI.out HZ0.out HZ1.out HZ2.out rfl (by decide) A1 (300) c1 (sc ru) rfl ho7 _ 1 1 (sc [⟨6, 2, 0, 0⟩]) rfl rfl hrow (sc_one _) hb1 hb0 hy7.size ?_; intro A8 c8 w8 ho8 hg8 hzz; have hx8 := hy7.app ho7 (Nat.le_refl _) hg8; rw [← sc_append] at ho8; clear hg8 hzz)
      clear ho7 hy7 hrow hl1 hb0 hb1
      have hM : InM w8 A8 (sc rowF) := HRF.out _ _ _ _ _ _ ho8
      have HM := Lib.hid hM
      clear hM ho8 ho hy
      have HXX := Lib.hid hx8
      clear hx8
      go_wp2_with fail
      refine (HF.out _ _ _ HM.out).mono ?_
      rintro e w9 ⟨gf, cvf, moref, rfl, hbf, hgf, hx9⟩
      clear hgf
      go_wp2_with fail
      refine (HN.out _).mono ?_
      rintro e w10 ⟨rfl, hx10⟩
      go_wp2_with fail
      refine (HFAR.out _ _ _ (HM.out.ext (hx9.trans hx10))).mono ?_
      rintro e w11 ⟨rfl, hx11⟩
      have hz3 := HXX.out.trans (hx9.trans (hx10.trans hx11))
      have hp := B3.out.ext hz3
      have hq := hbf.ext (hx10.trans hx11)
      obtain ⟨tl, htl⟩ : ∃ tl, bk.reverse = ⟨21, 0, 1, 7⟩ :: ⟨5, 0, 0, 1⟩ :: ⟨5, 0, 0, 299⟩ :: tl := ⟨bk.reverse.drop 3, by
        have h := List.take_append_drop 3 bk.reverse
        rw [HQ3.out] at h
        exact h.symm⟩
      rw [htl] at hq
      have p0 := (hp.cell 0).trans (pc3 _ _ _ _ _ 0 (by decide))
      have p1 := (hp.cell 1).trans (pc3 _ _ _ _ _ 1 (by decide))
      have p2 := (hp.cell 2).trans (pc3 _ _ _ _ _ 2 (by decide))
      have p3 := (hp.cell 3).trans (pc3 _ _ _ _ _ 3 (by decide))
      have p11 := (hp.cell 11).trans (pc3 _ _ _ _ _ 11 (by decide))
      have q0 := (hq.cell 0).trans (pc3 _ _ _ _ _ 0 (by decide))
      have q1 := (hq.cell 1).trans (pc3 _ _ _ _ _ 1 (by decide))
      have q2 := (hq.cell 2).trans (pc3 _ _ _ _ _ 2 (by decide))
      have q3 := (hq.cell 3).trans (pc3 _ _ _ _ _ 3 (by decide))
      have q4 := (hq.cell 4).trans (pc3 _ _ _ _ _ 4 (by decide))
      have q5 := (hq.cell 5).trans (pc3 _ _ _ _ _ 5 (by decide))
      have q6 := (hq.cell 6).trans (pc3 _ _ _ _ _ 6 (by decide))
      have q7 := (hq.cell 7).trans (pc3 _ _ _ _ _ 7 (by decide))
      have q8 := (hq.cell 8).trans (pc3 _ _ _ _ _ 8 (by decide))
      have q9 := (hq.cell 9).trans (pc3 _ _ _ _ _ 9 (by decide))
      have q10 := (hq.cell 10).trans (pc3 _ _ _ _ _ 10 (by decide))
      have q11 := (hq.cell 11).trans (pc3 _ _ _ _ _ 11 (by decide))
      simp only [Ins.cells, List.toList_toArray, List.cons_append, List.nil_append, List.getElem?_cons_zero, List.getElem?_cons_succ] at p0 p1 p2 p3 p11 q0 q1 q2 q3 q4 q5 q6 q7 q8 q9 q10 q11
      have e1 := fun W => (ins_eql ⟨21, 0, 1, 7⟩ ⟨21, 0, 1, 7⟩ W)
      have e2 := fun W => (ins_eql ⟨5, 0, 0, 1⟩ ⟨5, 0, 0, 1⟩ W)
      have e3 := fun W => (ins_eql ⟨5, 0, 0, 299⟩ ⟨5, 0, 0, 299⟩ W)
      have f1 := fun a b W => (ins_guard_eql ⟨21, 0, 1, 7⟩ ⟨21, 0, 1, 7⟩ a b W)
      have f2 := fun a b W => (ins_guard_eql ⟨5, 0, 0, 1⟩ ⟨5, 0, 0, 1⟩ a b W)
      have f3 := fun a b W => (ins_guard_eql ⟨5, 0, 0, 299⟩ ⟨5, 0, 0, 299⟩ a b W)
      simp only [Ins.val, Ins.cells, decide_true] at e1 e2 e3 f1 f2 f3
      have hfin := (HXA.out.trans hz3)
      clear htl hp hq hz3 HQ3 HQL HXX hx9 hx10 hx11
      go_wp2_with fail
      go_ret
      exact ⟨rfl, hfin⟩
end Go.Proofs.Ytjlhfmedaandeaa
