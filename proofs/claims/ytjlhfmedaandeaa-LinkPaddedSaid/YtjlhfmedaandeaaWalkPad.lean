import Derived.Test.YtjlhfmedaandeaaLinkC
import Derived.Test.YtjlhfmedaandeaaAwake27
import Derived.Test.YtjlhfmedaandeaaCodeRun
import Derived.Test.YtjlhfmedaandeaaVmC
import Derived.Test.YtjlhfmedaandeaaPadP
import Derived.Test.YtjlhfmedaandeaaWords
/- The law LinkPadded, walked. -/
namespace Go.Proofs.Ytjlhfmedaandeaa
open Go.RowKit Go.ChangeShapes Go.WideShapes
set_option linter.unusedVariables false
set_option linter.unusedSimpArgs false

theorem scp (co kk th el : Int) : sc [⟨co, kk, th, el⟩] = [.int .u16 co, .int .u32 kk, .int .i64 th, .int .i64 el] := rfl
set_option maxHeartbeats 4000000 in
set_option maxRecDepth 100000 in
theorem linkPadded_walk (d : Dat) (hd : d.ok) (x : Int) (hx0 : (Lit.int .i64 x).wf = true) (ev : Int) (hev : (Lit.int .i64 ev).wf = true) (kk : Int) (hkk : (Lit.int .u32 kk).wf = true) (w : World) :
    Calls Try.prog 11 #[d.val, .int .i64 x, .int .i64 ev, .int .u32 kk] w fun e w' => e = .returned (.bool true) ∧ Ext w w' := by
  have HAW := Lib.hid (fun W => awake27 W)
  by_cases o1 : x < 0
  · clear hd hx0 hev hkk
    obtain ⟨nr, arch, ip, a0, a1, a2, a3, a4, a5⟩ := d
    have hxd := (Ext.refl w).alloc (.cells #[.int .u32 nr, .int .u32 arch, .int .u64 ip, .int .u64 a0, .int .u64 a1, .int .u64 a2, .int .u64 a3, .int .u64 a4, .int .u64 a5] 53)
    have HBD := Lib.hid (Blk.new w 53 #[.int .u32 nr, .int .u32 arch, .int .u64 ip, .int .u64 a0, .int .u64 a1, .int .u64 a2, .int .u64 a3, .int .u64 a4, .int .u64 a5])
    go_enter Try.func11, Try.ntmps11
    go_wp2_with fail
    refine (HAW.out _).mono ?_
    rintro e w1 ⟨rfl, hx1⟩
    have hx := hxd.trans hx1
    have HB1 := Lib.hid (HBD.out.ext hx1)
    generalize w.heap.size = gd at *
    clear hxd hx1 HBD
    go_wp2_with fail
    go_ret
    exact ⟨rfl, hx⟩
  by_cases o2 : 1200 < x
  · clear hd hx0 hev hkk
    obtain ⟨nr, arch, ip, a0, a1, a2, a3, a4, a5⟩ := d
    have hxd := (Ext.refl w).alloc (.cells #[.int .u32 nr, .int .u32 arch, .int .u64 ip, .int .u64 a0, .int .u64 a1, .int .u64 a2, .int .u64 a3, .int .u64 a4, .int .u64 a5] 53)
    have HBD := Lib.hid (Blk.new w 53 #[.int .u32 nr, .int .u32 arch, .int .u64 ip, .int .u64 a0, .int .u64 a1, .int .u64 a2, .int .u64 a3, .int .u64 a4, .int .u64 a5])
    go_enter Try.func11, Try.ntmps11
    go_wp2_with fail
    refine (HAW.out _).mono ?_
    rintro e w1 ⟨rfl, hx1⟩
    have hx := hxd.trans hx1
    have HB1 := Lib.hid (HBD.out.ext hx1)
    generalize w.heap.size = gd at *
    clear hxd hx1 HBD
    go_wp2_with fail
    go_ret
    exact ⟨rfl, hx⟩
  by_cases o3 : ev < 1
  · clear hd hx0 hev hkk
    obtain ⟨nr, arch, ip, a0, a1, a2, a3, a4, a5⟩ := d
    have hxd := (Ext.refl w).alloc (.cells #[.int .u32 nr, .int .u32 arch, .int .u64 ip, .int .u64 a0, .int .u64 a1, .int .u64 a2, .int .u64 a3, .int .u64 a4, .int .u64 a5] 53)
    have HBD := Lib.hid (Blk.new w 53 #[.int .u32 nr, .int .u32 arch, .int .u64 ip, .int .u64 a0, .int .u64 a1, .int .u64 a2, .int .u64 a3, .int .u64 a4, .int .u64 a5])
    go_enter Try.func11, Try.ntmps11
    go_wp2_with fail
    refine (HAW.out _).mono ?_
    rintro e w1 ⟨rfl, hx1⟩
    have hx := hxd.trans hx1
    have HB1 := Lib.hid (HBD.out.ext hx1)
    generalize w.heap.size = gd at *
    clear hxd hx1 HBD
    go_wp2_with fail
    go_ret
    exact ⟨rfl, hx⟩
  by_cases o4 : 100 < ev
  · clear hd hx0 hev hkk
    obtain ⟨nr, arch, ip, a0, a1, a2, a3, a4, a5⟩ := d
    have hxd := (Ext.refl w).alloc (.cells #[.int .u32 nr, .int .u32 arch, .int .u64 ip, .int .u64 a0, .int .u64 a1, .int .u64 a2, .int .u64 a3, .int .u64 a4, .int .u64 a5] 53)
    have HBD := Lib.hid (Blk.new w 53 #[.int .u32 nr, .int .u32 arch, .int .u64 ip, .int .u64 a0, .int .u64 a1, .int .u64 a2, .int .u64 a3, .int .u64 a4, .int .u64 a5])
    go_enter Try.func11, Try.ntmps11
    go_wp2_with fail
    refine (HAW.out _).mono ?_
    rintro e w1 ⟨rfl, hx1⟩
    have hx := hxd.trans hx1
    have HB1 := Lib.hid (HBD.out.ext hx1)
    generalize w.heap.size = gd at *
    clear hxd hx1 HBD
    go_wp2_with fail
    go_ret
    exact ⟨rfl, hx⟩
  obtain ⟨n, rfl⟩ : ∃ n : Nat, x = n := ⟨x.toNat, by omega⟩
  have hk0 : 0 ≤ kk ∧ kk < 4294967296 := wf_u32 hkk
  obtain ⟨i0, hi, hz0, hz1, hz2⟩ := info_parts info_sym
  have HI := Lib.hid hi; have HZ0 := Lib.hid hz0; have HZ1 := Lib.hid hz1; have HZ2 := Lib.hid hz2
  have p0 : (0 : Int) ≤ n := by omega
  have p1 : (n : Int) ≤ 1200 := by omega
  have p2 : 1 ≤ ev := by omega
  have p3 : ev ≤ 100 := by omega
  have w3 : IntKind.i64.wrap ((n : Int) + 3) = (n : Int) + 3 := IntWalk.i64_in _ (by omega)
  have w2 : IntKind.i64.wrap ((n : Int) + 2) = (n : Int) + 2 := IntWalk.i64_in _ (by omega)
  have HD := Lib.hid hd
  have hnr0 : d.word 0 = d.nr := by unfold Dat.word; rw [if_pos (by decide)]; rfl
  have HNR := Lib.hid hnr0
  have HKK := Lib.hid hk0
  clear hi hz0 hz1 hz2 hd hx0 hev hkk hnr0
  obtain ⟨nr, arch, ip, a0, a1, a2, a3, a4, a5⟩ := d
  have hxd := (Ext.refl w).alloc (.cells #[.int .u32 nr, .int .u32 arch, .int .u64 ip, .int .u64 a0, .int .u64 a1, .int .u64 a2, .int .u64 a3, .int .u64 a4, .int .u64 a5] 53)
  have HBD := Lib.hid (Blk.new w 53 #[.int .u32 nr, .int .u32 arch, .int .u64 ip, .int .u64 a0, .int .u64 a1, .int .u64 a2, .int .u64 a3, .int .u64 a4, .int .u64 a5])
  go_enter Try.func11, Try.ntmps11
  go_wp2_with fail
  refine (HAW.out _).mono ?_
  rintro e w1 ⟨rfl, hx1⟩
  have hx := hxd.trans hx1
  have HB1 := Lib.hid (HBD.out.ext hx1)
  generalize w.heap.size = gd at *
  clear hxd hx1 HBD
  have hbu := Blk.new w1 32 #[.int .u16 32, .int .u32 0, .int .i64 0, .int .i64 0, .int .u16 21, .int .u32 kk, .int .i64 2, .int .i64 ((n : Int) + 3)]
  have hxu := (Ext.refl w1).alloc (.cells #[.int .u16 32, .int .u32 0, .int .i64 0, .int .i64 0, .int .u16 21, .int .u32 kk, .int .i64 2, .int .i64 ((n : Int) + 3)] 32)
  have hou : (w1.alloc (.cells #[.int .u16 32, .int .u32 0, .int .i64 0, .int .i64 0, .int .u16 21, .int .u32 kk, .int .i64 2, .int .i64 ((n : Int) + 3)] 32)).ownsRow w1.heap.size 32 4 (.slice (some ⟨w1.heap.size, 0, none⟩) 2 2) 2 (sc [⟨32, 0, 0, 0⟩, ⟨21, kk, 2, (n : Int) + 3⟩]) :=
    ⟨rfl, .inr ⟨_, 2, _, rfl, Nat.le_refl _, hbu, Nat.le_refl _, by decide, rfl, rfl⟩⟩
  clear hbu
  go_wp2_with fail
  go_loopw [9, 10] (fun v it wr => ∃ (k : Nat) (A1 : Option Addr) (c1 : Nat) (L : List Sy), k ≤ n ∧ it = .int .i64 k ∧ Hid (Pad n k kk L) ∧ (v = .slice A1 (k + 2) c1 ∧ wr.ownsRow w1.heap.size 32 4 (.slice A1 (k + 2) c1) (k + 2) (sc L)) ∧ Ext w1 wr) (fun _ it _ => n - (intOf it).toNat)
  case atStart => exact ⟨0, _, _, _, by omega, rfl, Lib.hid (pad_zero n kk), ⟨rfl, hou⟩, hxu⟩
  case round =>
    clear hou hxu
    obtain ⟨k, A1, c1, L, hk, rfl, hL, ⟨rfl, ho⟩, hy⟩ := hrel
    by_cases hlt : k < n
    · have k1 : (k : Int) < n := by omega
      have k2 : (0 : Int) ≤ k := by omega
      have hq0 : 0 ≤ (k : Int) / ev := Int.ediv_nonneg (by omega) (by omega)
      have hq1 : (k : Int) / ev ≤ 1200 := by
        have := Int.ediv_le_self (a := (k : Int)) ev (by omega)
        omega
      rcases hm : ((k : Int) % ev == 0) with _ | _
      · have hPS := Lib.hid (pad_snoc hL.out (.inl rfl))
        have hl1 : (sc L).length = (k+2) * 4 := by rw [sc_length, hL.out.len]; omega
        have ho7 := own_ext ho (((Ext.refl wr).alloc (.cells #[.int .u16 32, .int .u32 4, .int .i64 0, .int .i64 0] 32)).alloc (.cells #[.int .u16 32, .int .u32 4, .int .i64 0, .int .i64 0] 32))
        have hy7 := ((hy).alloc (.cells #[.int .u16 32, .int .u32 4, .int .i64 0, .int .i64 0] 32)).alloc (.cells #[.int .u16 32, .int .u32 4, .int .i64 0, .int .i64 0] 32)
        have hrow : InM (((wr).alloc (.cells #[.int .u16 32, .int .u32 4, .int .i64 0, .int .i64 0] 32)).alloc (.cells #[.int .u16 32, .int .u32 4, .int .i64 0, .int .i64 0] 32)) (some ⟨(wr).heap.size + 1, 0, none⟩) (sc [⟨32, 4, 0, 0⟩]) := InM.ofBlk (Blk.new_ (by simp)) rfl
        have hb1 : (k+2) + 1 ≤ 1000000 := by omega
        have hb0 : 24 ≤ 10000 := by decide
        go_wp2_with (refine wpList_app rfl (.tmp 65) (.tmp 67) 22 rfl w1.heap.size 32 i0 _ 4 24 Try.underlying22 HI.out HZ0.out HZ1.out HZ2.out rfl (by decide) A1 ((k+2)) c1 (sc L) rfl ho7 _ 1 1 (sc [⟨32, 4, 0, 0⟩]) rfl rfl hrow (sc_one _) hb1 hb0 hy7.size ?_; intro A8 c8 w8 ho8 hg8 hzz; have hx8 := hy7.app ho7 (Nat.le_refl _) hg8; rw [← sc_append] at ho8; clear hg8 hzz)
        clear ho7 hy7 hrow hl1 hb0 hb1
        go_roundw
        case rel => exact ⟨k + 1, A8, c8, _, by omega, by go_num, hPS, ⟨by rw [show k + 1 + 2 = k + 2 + 1 by omega], by rw [show k + 1 + 2 = k + 2 + 1 by omega]; exact ho8⟩, hx8⟩
        case measure => simp [intOf]; omega
      · have hPS := Lib.hid (pad_snoc hL.out (s := ⟨69, 2 ^ ((k : Int) / ev % 32).toNat % 4294967296, (k : Int) + 2 + 1, (n : Int) + 2⟩) (.inr ⟨_, ⟨Int.emod_nonneg _ (by decide), Int.emod_lt_of_pos _ (by decide)⟩, by rw [show (k : Int) + 2 + 1 = (k : Int) + 3 by omega]⟩))
        have hl1 : (sc L).length = (k+2) * 4 := by rw [sc_length, hL.out.len]; omega
        have ho7 := own_ext ho (((Ext.refl wr).alloc (.cells #[.int .u16 69, .int .u32 (2 ^ ((k : Int) / ev % 32).toNat % 4294967296), .int .i64 ((k : Int) + 2 + 1), .int .i64 ((n : Int) + 2)] 32)).alloc (.cells #[.int .u16 69, .int .u32 (2 ^ ((k : Int) / ev % 32).toNat % 4294967296), .int .i64 ((k : Int) + 2 + 1), .int .i64 ((n : Int) + 2)] 32))
        have hy7 := ((hy).alloc (.cells #[.int .u16 69, .int .u32 (2 ^ ((k : Int) / ev % 32).toNat % 4294967296), .int .i64 ((k : Int) + 2 + 1), .int .i64 ((n : Int) + 2)] 32)).alloc (.cells #[.int .u16 69, .int .u32 (2 ^ ((k : Int) / ev % 32).toNat % 4294967296), .int .i64 ((k : Int) + 2 + 1), .int .i64 ((n : Int) + 2)] 32)
        have hrow : InM (((wr).alloc (.cells #[.int .u16 69, .int .u32 (2 ^ ((k : Int) / ev % 32).toNat % 4294967296), .int .i64 ((k : Int) + 2 + 1), .int .i64 ((n : Int) + 2)] 32)).alloc (.cells #[.int .u16 69, .int .u32 (2 ^ ((k : Int) / ev % 32).toNat % 4294967296), .int .i64 ((k : Int) + 2 + 1), .int .i64 ((n : Int) + 2)] 32)) (some ⟨(wr).heap.size + 1, 0, none⟩) (sc [⟨69, 2 ^ ((k : Int) / ev % 32).toNat % 4294967296, (k : Int) + 2 + 1, (n : Int) + 2⟩]) := InM.ofBlk (Blk.new_ (by simp)) rfl
        have hb1 : (k+2) + 1 ≤ 1000000 := by omega
        have hb0 : 24 ≤ 10000 := by decide
        go_wp2_with (refine wpList_app rfl (.tmp 65) (.tmp 67) 22 rfl w1.heap.size 32 i0 _ 4 24 Try.underlying22 HI.out HZ0.out HZ1.out HZ2.out rfl (by decide) A1 ((k+2)) c1 (sc L) rfl ho7 _ 1 1 (sc [⟨69, 2 ^ ((k : Int) / ev % 32).toNat % 4294967296, (k : Int) + 2 + 1, (n : Int) + 2⟩]) rfl rfl hrow (sc_one _) hb1 hb0 hy7.size ?_; intro A8 c8 w8 ho8 hg8 hzz; have hx8 := hy7.app ho7 (Nat.le_refl _) hg8; rw [← sc_append] at ho8; clear hg8 hzz)
        clear ho7 hy7 hrow hl1 hb0 hb1
        go_roundw
        case rel => exact ⟨k + 1, A8, c8, _, by omega, by go_num, hPS, ⟨by rw [show k + 1 + 2 = k + 2 + 1 by omega], by rw [show k + 1 + 2 = k + 2 + 1 by omega]; exact ho8⟩, hx8⟩
        case measure => simp [intOf]; omega
    · obtain rfl : k = n := by omega
      have hl1 : (sc L).length = (k + 2) * 4 := by rw [sc_length, hL.out.len]; omega
      have ho7 := own_ext ho ((Ext.refl wr).alloc (.cells #[.int .u16 6, .int .u32 2147418112, .int .i64 0, .int .i64 0, .int .u16 6, .int .u32 2147483648, .int .i64 0, .int .i64 0] 32))
      have hy7 := hy.alloc (.cells #[.int .u16 6, .int .u32 2147418112, .int .i64 0, .int .i64 0, .int .u16 6, .int .u32 2147483648, .int .i64 0, .int .i64 0] 32)
      have hrow : InM (wr.alloc (.cells #[.int .u16 6, .int .u32 2147418112, .int .i64 0, .int .i64 0, .int .u16 6, .int .u32 2147483648, .int .i64 0, .int .i64 0] 32)) (some ⟨wr.heap.size, 0, none⟩) (sc [⟨6, 2147418112, 0, 0⟩, ⟨6, 2147483648, 0, 0⟩]) := InM.ofBlk (Blk.new _ _ _) rfl
      have hb1 : k + 2 + 2 ≤ 1000000 := by omega
      have hb0 : 24 ≤ 10000 := by decide
      go_wp2_with (refine wpList_app rfl (.tmp 69) (.tmp 72) 22 rfl w1.heap.size 32 i0 _ 4 24 Try.underlying22 HI.out HZ0.out HZ1.out HZ2.out rfl (by decide) A1 (k + 2) c1 (sc L) rfl ho7 _ 2 2 (sc [⟨6, 2147418112, 0, 0⟩, ⟨6, 2147483648, 0, 0⟩]) rfl rfl hrow (sc_one _) hb1 hb0 hy7.size ?_; intro A8 c8 w8 ho8 hg8 hzz; have hx8 := hy7.app ho7 (Nat.le_refl _) hg8; rw [← sc_append] at ho8; clear hg8 hzz)
      clear ho7 hy7 hrow hl1 hb0 hb1
      have hP := hL.out
      have hn12 : k ≤ 1200 := by omega
      have hY := padF_may hP hn12
      have hok := padF_ok hP hn12 HKK.out
      have hlen : (padF L).length = k + 2 + 2 := padF_len hP
      have hmay := mayL_mk hY
      have hM : InM w8 A8 (sc (padF L)) := own_inM ho8
      have HM := Lib.hid hM
      obtain ⟨q1, q2, q3⟩ := link_all hY
      have hfb : 0 ≤ (lall (padF L)).far ∧ (lall (padF L)).far ≤ k + 4 := by
        have h1 := (lst_bd (padF L) (List.range (padF L).length).reverse).h5
        have h2 := (lst_bd (padF L) (List.range (padF L).length).reverse).h4
        rw [List.length_reverse, List.length_range] at h1
        unfold lall
        omega
      have hb : (lall (padF L)).bk.length ≤ 4096 := by omega
      have hlr : (lall (padF L)).bk.reverse.length = (lall (padF L)).bk.length := List.length_reverse
      have hok2 : ∀ i ∈ (lall (padF L)).bk.reverse, i.ok := by
        rw [q1]
        rw [q1] at hlr
        exact link_ok hY q3 (by omega) hok
      obtain ⟨r1, r2, r3, r4⟩ := link_run hY hok ⟨nr, arch, ip, a0, a1, a2, a3, a4, a5⟩
      have hrun := padF_run hP hn12 (Dat.word ⟨nr, arch, ip, a0, a1, a2, a3, a4, a5⟩)
      rw [HNR.out] at hrun
      have H := Lib.hid (fun W hW => linkYesI A8 (k + 2 + 2) c8 (padF L) W hlen hok hW hmay hb)
      have HRun := Lib.hid (fun W hW => codeRunYes A8 (k + 2 + 2) c8 (padF L) W hlen hok hW hmay ⟨nr, arch, ip, a0, a1, a2, a3, a4, a5⟩ HD.out)
      have HVm := Lib.hid (fun P cv W hW => vmRun P (lall (padF L)).bk.length cv (lall (padF L)).bk.reverse hlr hok2 (by omega) ⟨nr, arch, ip, a0, a1, a2, a3, a4, a5⟩ HD.out W hW)
      generalize runR ⟨nr, arch, ip, a0, a1, a2, a3, a4, a5⟩ (lall (padF L)).bk.reverse = R at *
      obtain ⟨ra, rs, rt, re⟩ := R
      dsimp only at r1 r2 r3 r4 HVm
      generalize runS (Dat.word ⟨nr, arch, ip, a0, a1, a2, a3, a4, a5⟩) (padF L) = S at *
      obtain ⟨sa, ss⟩ := S
      dsimp only at r2 r3 r4 HRun hrun
      subst r1 r2
      generalize (lall (padF L)).bk.reverse = qs at *
      generalize (lall (padF L)).bk.length = m at *
      dsimp only [Dat.val] at *
      have HRR := Lib.hid hrun
      have f7 : ∀ x : Int, (x == x) = true := fun x => by simp
      clear hP hY hok hmay hM q1 q2 q3 hfb hb hlr hok2 r3 r4 hrun hlen ho8 ho hy
      go_wp2_with fail
      refine (H.out _ HM.out).mono ?_
      rintro e w2 ⟨g, cv, more, rfl, hb2, hg2, hx2⟩
      have HP2 := Lib.hid ((InM.ofBlk hb2 rfl).prefix_)
      have hx82 := hx8.trans hx2
      have HB2 := Lib.hid (HB1.out.ext hx82)
      clear hg2 hb2
      have hb3 := HB2.out
      have r0 := (hb3).cell 0
      have r1 := (hb3).cell 1
      have r2 := (hb3).cell 2
      have r3 := (hb3).cell 3
      have r4 := (hb3).cell 4
      have r5 := (hb3).cell 5
      have r6 := (hb3).cell 6
      have r7 := (hb3).cell 7
      have r8 := (hb3).cell 8
      go_wp2_with fail
      refine (HRun.out _ (HM.out.ext hx2)).mono ?_
      rintro e w4 ⟨rfl, hx4⟩
      have hb4 := hb3.ext hx4
      clear r0 r1 r2 r3 r4 r5 r6 r7 r8
      have r0 := (hb4).cell 0
      have r1 := (hb4).cell 1
      have r2 := (hb4).cell 2
      have r3 := (hb4).cell 3
      have r4 := (hb4).cell 4
      have r5 := (hb4).cell 5
      have r6 := (hb4).cell 6
      have r7 := (hb4).cell 7
      have r8 := (hb4).cell 8
      go_wp2_with fail
      refine (HVm.out _ _ _ (HP2.out.ext hx4)).mono ?_
      rintro e w5 ⟨rfl, hx5⟩
      have hb5 := hb4.ext hx5
      clear r0 r1 r2 r3 r4 r5 r6 r7 r8 hb3 hb4
      have r0 := hb5.cell 0
      have hfin := (hx.trans hx82).trans (hx4.trans hx5)
      have f8 := f7 ra
      by_cases en : nr = kk
      · have hr := HRR.out
        rw [if_pos en] at hr
        subst hr
        have en' : (nr == kk) = true := by simpa using en
        clear en f7 hb5 HRR
        go_wp2_with fail
        go_ret
        exact ⟨rfl, hfin⟩
      · have hr := HRR.out
        rw [if_neg en] at hr
        subst hr
        have en' : (nr == kk) = false := by simpa using en
        clear en f7 hb5 HRR
        go_wp2_with fail
        go_ret
        exact ⟨rfl, hfin⟩
end Go.Proofs.Ytjlhfmedaandeaa
