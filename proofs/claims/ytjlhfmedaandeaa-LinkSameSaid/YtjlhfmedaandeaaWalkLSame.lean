import Derived.Test.YtjlhfmedaandeaaLinkC
import Derived.Test.YtjlhfmedaandeaaAwake27
import Derived.Test.YtjlhfmedaandeaaCodeRun
import Derived.Test.YtjlhfmedaandeaaVmC
import Derived.Test.YtjlhfmedaandeaaChkC
/- The law LinkSame, walked. -/
namespace Go.Proofs.Ytjlhfmedaandeaa
open Go.RowKit Go.ChangeShapes Go.WideShapes
set_option linter.unusedVariables false
set_option linter.unusedSimpArgs false

set_option maxHeartbeats 2000000 in
set_option maxRecDepth 100000 in
theorem linkSame_walk (A : Option Addr) (n c : Nat) (ps : List Sy) (hp : ps.length = n) (hm : n ≤ c ∧ c ≤ maxLen) (hok : ∀ i ∈ ps, i.ok) {w : World} (hM : InM w A (sc ps)) (d : Dat) (hd : d.ok) (_ : World) :
    Calls Try.prog 12 #[.slice A n c, d.val] w fun e w' => e = .returned (.bool true) ∧ Ext w w' := by
  have HAW := Lib.hid (fun W => awake27 W)
  have HM := Lib.hid hM
  by_cases big : 1000 < n
  · have d1 : (1000 : Int) < n := by omega
    clear hp hm hok hM hd
    obtain ⟨nr, arch, ip, a0, a1, a2, a3, a4, a5⟩ := d
    have hxd := (Ext.refl w).alloc (.cells #[.int .u32 nr, .int .u32 arch, .int .u64 ip, .int .u64 a0, .int .u64 a1, .int .u64 a2, .int .u64 a3, .int .u64 a4, .int .u64 a5] 53)
    have HBD := Lib.hid (Blk.new w 53 #[.int .u32 nr, .int .u32 arch, .int .u64 ip, .int .u64 a0, .int .u64 a1, .int .u64 a2, .int .u64 a3, .int .u64 a4, .int .u64 a5])
    go_enter Try.func12, Try.ntmps12
    go_wp2_with fail
    refine (HAW.out _).mono ?_
    rintro e w1 ⟨rfl, hx1⟩
    have hx := hxd.trans hx1
    have HB1 := Lib.hid (HBD.out.ext hx1)
    generalize w.heap.size = gd at *
    clear hxd hx1 HBD
    go_wp2_with fail
    go_ret
    exact ⟨rfl, hx⟩
  have d1 : ¬ (1000 : Int) < n := by omega
  have hn : n ≤ maxLen := by omega
  have HMay := Lib.hid (fun W hW => codeMay A n c ps W hp hok hn hW)
  cases hmay : mayL ps with
  | false =>
    have H := Lib.hid (fun W hW => linkNoI A n c ps W hp hok hn hW hmay)
    rw [hmay] at HMay
    clear hp hm hok hM hd hn big hmay
    obtain ⟨nr, arch, ip, a0, a1, a2, a3, a4, a5⟩ := d
    have hxd := (Ext.refl w).alloc (.cells #[.int .u32 nr, .int .u32 arch, .int .u64 ip, .int .u64 a0, .int .u64 a1, .int .u64 a2, .int .u64 a3, .int .u64 a4, .int .u64 a5] 53)
    have HBD := Lib.hid (Blk.new w 53 #[.int .u32 nr, .int .u32 arch, .int .u64 ip, .int .u64 a0, .int .u64 a1, .int .u64 a2, .int .u64 a3, .int .u64 a4, .int .u64 a5])
    go_enter Try.func12, Try.ntmps12
    go_wp2_with fail
    refine (HAW.out _).mono ?_
    rintro e w1 ⟨rfl, hx1⟩
    have hx := hxd.trans hx1
    have HB1 := Lib.hid (HBD.out.ext hx1)
    generalize w.heap.size = gd at *
    clear hxd hx1 HBD
    go_wp2_with fail
    refine (H.out _ (HM.out.ext hx)).mono ?_
    rintro e w2 ⟨rfl, hx2⟩
    go_wp2_with fail
    refine (HMay.out _ (HM.out.ext (hx.trans hx2))).mono ?_
    rintro e w3 ⟨rfl, hx3⟩
    go_wp2_with fail
    go_ret
    exact ⟨rfl, (hx.trans hx2).trans hx3⟩
  | true =>
    have hY := mayL_of hmay
    obtain ⟨q1, q2, q3⟩ := link_all hY
    have HFar := Lib.hid (fun W hW => linkFar A n c ps W hp hok hn hW)
    rw [show farT ps = (lall ps).far from by unfold farT; rw [if_pos hmay]] at HFar
    rw [hp] at q2
    have hfb : 0 ≤ (lall ps).far ∧ (lall ps).far ≤ n := by
      have h1 := (lst_bd ps (List.range ps.length).reverse).h5
      have h2 := (lst_bd ps (List.range ps.length).reverse).h4
      rw [List.length_reverse, List.length_range] at h1
      unfold lall
      omega
    by_cases hb : 4096 < (lall ps).bk.length
    · have H := Lib.hid (fun W hW => linkBigI A n c ps W hp hok hW hmay hb)
      generalize (lall ps).far = far at *
      have f1 : IntKind.i64.wrap (2 * far) = 2 * far := IntWalk.i64_in _ (by omega)
      have f2 : IntKind.i64.wrap ((n : Int) + 2 * far) = (n : Int) + 2 * far := IntWalk.i64_in _ (by omega)
      have f3 : (4096 : Int) < n + 2 * far := by omega
      rw [hmay] at HMay
      clear hfb hp hm hok hM hd hn big hmay q1 q2 q3 hY hb
      obtain ⟨nr, arch, ip, a0, a1, a2, a3, a4, a5⟩ := d
      have hxd := (Ext.refl w).alloc (.cells #[.int .u32 nr, .int .u32 arch, .int .u64 ip, .int .u64 a0, .int .u64 a1, .int .u64 a2, .int .u64 a3, .int .u64 a4, .int .u64 a5] 53)
      have HBD := Lib.hid (Blk.new w 53 #[.int .u32 nr, .int .u32 arch, .int .u64 ip, .int .u64 a0, .int .u64 a1, .int .u64 a2, .int .u64 a3, .int .u64 a4, .int .u64 a5])
      go_enter Try.func12, Try.ntmps12
      go_wp2_with fail
      refine (HAW.out _).mono ?_
      rintro e w1 ⟨rfl, hx1⟩
      have hx := hxd.trans hx1
      have HB1 := Lib.hid (HBD.out.ext hx1)
      generalize w.heap.size = gd at *
      clear hxd hx1 HBD
      go_wp2_with fail
      refine (H.out _ (HM.out.ext hx)).mono ?_
      rintro e w2 ⟨rfl, hx2⟩
      go_wp2_with fail
      refine (HMay.out _ (HM.out.ext (hx.trans hx2))).mono ?_
      rintro e w3 ⟨rfl, hx3⟩
      go_wp2_with fail
      refine (HFar.out _ (HM.out.ext (hx.trans (hx2.trans hx3)))).mono ?_
      rintro e w4 ⟨rfl, hx4⟩
      go_wp2_with fail
      go_ret
      exact ⟨rfl, hx.trans (hx2.trans (hx3.trans hx4))⟩
    · have hlen : (lall ps).bk.reverse.length = (lall ps).bk.length := List.length_reverse
      have hok2 : ∀ i ∈ (lall ps).bk.reverse, i.ok := by
        rw [q1]
        rw [q1] at hlen
        exact link_ok hY q3 (by omega) hok
      have hat : (atE (lall ps).bk.reverse).2 = 0 := by
        rw [q1]
        rw [q1] at hlen
        rw [link_taken hY q3 (by omega)]
      obtain ⟨r1, r2, r3, r4⟩ := link_run hY hok d
      have hst := runAt_steps hY d.word ps.length 0 0 (by omega) (by have := hY.l1; omega)
      have H := Lib.hid (fun W hW => linkYesI A n c ps W hp hok hW hmay (by omega))
      have HRun := Lib.hid (fun W hW => codeRunYes A n c ps W hp hok hW hmay d hd)
      have HVm := Lib.hid (fun P cv W hW => vmRun P (lall ps).bk.length cv (lall ps).bk.reverse hlen hok2 (by omega) d hd W hW)
      have HCk := Lib.hid (fun P cv W hW => checkCheck P (lall ps).bk.length cv (lall ps).bk.reverse W hlen hok2 (by omega) hW)
      rw [hat] at HCk
      have hl1 := hY.l1
      have hst2 : (runS d.word ps).2 ≤ n := by
        have : (runS d.word ps).2 ≤ ps.length - 0 := hst.2
        omega
      generalize hRR : runR d (lall ps).bk.reverse = R at *
      obtain ⟨ra, rs, rt, re⟩ := R
      dsimp only at r1 r2 r3 r4 HVm
      generalize runS d.word ps = S at *
      obtain ⟨sa, ss⟩ := S
      dsimp only at r2 r3 r4 hst2 HRun
      subst r1 r2
      generalize (lall ps).far = far at *
      generalize hbk : (lall ps).bk.reverse = qs at *
      generalize (lall ps).bk.length = m at *
      have f1 : IntKind.i64.wrap (2 * far) = 2 * far := IntWalk.i64_in _ (by omega)
      have f2 : IntKind.i64.wrap ((n : Int) + 2 * far) = (m : Int) := by rw [← q2]; exact IntWalk.i64_in _ (by omega)
      have f3 : IntKind.i64.wrap ((ss : Int) + far) = (ss : Int) + far := IntWalk.i64_in _ (by omega)
      have f4 : decide ((ss : Int) ≤ rs) = true := by simp; omega
      have f5 : decide ((rs : Int) ≤ (ss : Int) + far) = true := by simp; omega
      have f6 : ((m : Int) == m) = true := by simp
      have f7 : ∀ x : Int, (x == x) = true := fun x => by simp
      have f8 := f7 ra
      have f9 : (ss : Int) ≤ rs := by omega
      have f10 : (rs : Int) ≤ (ss : Int) + far := by omega
      clear hfb hp hm hok hM hd hn big hmay q1 q2 q3 hY hb hlen hok2 hat r3 r4 hst hst2 hRR hbk f7 hl1
      dsimp only [Dat.val] at *
      obtain ⟨nr, arch, ip, a0, a1, a2, a3, a4, a5⟩ := d
      have hxd := (Ext.refl w).alloc (.cells #[.int .u32 nr, .int .u32 arch, .int .u64 ip, .int .u64 a0, .int .u64 a1, .int .u64 a2, .int .u64 a3, .int .u64 a4, .int .u64 a5] 53)
      have HBD := Lib.hid (Blk.new w 53 #[.int .u32 nr, .int .u32 arch, .int .u64 ip, .int .u64 a0, .int .u64 a1, .int .u64 a2, .int .u64 a3, .int .u64 a4, .int .u64 a5])
      go_enter Try.func12, Try.ntmps12
      go_wp2_with fail
      refine (HAW.out _).mono ?_
      rintro e w1 ⟨rfl, hx1⟩
      have hx := hxd.trans hx1
      have HB1 := Lib.hid (HBD.out.ext hx1)
      generalize w.heap.size = gd at *
      clear hxd hx1 HBD
      go_wp2_with fail
      refine (H.out _ (HM.out.ext hx)).mono ?_
      rintro e w2 ⟨g, cv, more, rfl, hb2, hg2, hx2⟩
      have HP2 := Lib.hid ((InM.ofBlk hb2 rfl).prefix_)
      replace hx := hx.trans hx2
      have HB2 := Lib.hid (HB1.out.ext hx2)
      clear hg2 hb2 HB1 hx2
      go_wp2_with fail
      refine (HFar.out _ (HM.out.ext hx)).mono ?_
      rintro e w3 ⟨rfl, hx3⟩
      replace hx := hx.trans hx3
      have hb3 := HB2.out.ext hx3
      have r0 := (hb3).cell 0
      have r1 := (hb3).cell 1
      have r2 := (hb3).cell 2
      have r3 := (hb3).cell 3
      have r4 := (hb3).cell 4
      have r5 := (hb3).cell 5
      have r6 := (hb3).cell 6
      have r7 := (hb3).cell 7
      have r8 := (hb3).cell 8
      go_wp2_with fail
      refine (HRun.out _ (HM.out.ext hx)).mono ?_
      rintro e w4 ⟨rfl, hx4⟩
      replace hx := hx.trans hx4
      have hb4 := hb3.ext hx4
      clear r0 r1 r2 r3 r4 r5 r6 r7 r8
      have r0 := (hb4).cell 0
      have r1 := (hb4).cell 1
      have r2 := (hb4).cell 2
      have r3 := (hb4).cell 3
      have r4 := (hb4).cell 4
      have r5 := (hb4).cell 5
      have r6 := (hb4).cell 6
      have r7 := (hb4).cell 7
      have r8 := (hb4).cell 8
      go_wp2_with fail
      refine (HVm.out _ _ _ (HP2.out.ext (hx3.trans hx4))).mono ?_
      rintro e w5 ⟨rfl, hx5⟩
      replace hx := hx.trans hx5
      clear r0 r1 r2 r3 r4 r5 r6 r7 r8 hb3 hb4
      go_wp2_with fail
      refine (HCk.out _ _ _ (HP2.out.ext (hx3.trans (hx4.trans hx5)))).mono ?_
      rintro e w6 ⟨rfl, hx6⟩
      go_wp2_with fail
      go_ret
      exact ⟨rfl, hx.trans hx6⟩
end Go.Proofs.Ytjlhfmedaandeaa
