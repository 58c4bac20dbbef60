import Derived.Test.YtjlhfmedaandeaaAwake26
import Derived.Test.YtjlhfmedaandeaaCodeRun
/- vestibulelaw26.same; the law OptSame, walked. -/
namespace Go.Proofs.Ytjlhfmedaandeaa
open Go.RowKit Go.ChangeShapes Go.WideShapes
set_option linter.unusedVariables false
set_option linter.unusedSimpArgs false

set_option maxHeartbeats 1000000 in
set_option maxRecDepth 100000 in
theorem same26 (A B : Option Addr) (n c m c2 : Nat) (ps qs : List Sy) (w : World) (d : Dat) (hd : d.ok) (hp : ps.length = n) (hq : qs.length = m) (hok : ∀ i ∈ ps, i.ok) (hok2 : ∀ i ∈ qs, i.ok) (hY : mayL ps = true) (hZ : mayL qs = true) (hM : InM w A (sc ps)) (hN : InM w B (sc qs))
    (h1 : (runS d.word qs).1 = (runS d.word ps).1) (h2 : (runS d.word qs).2 ≤ (runS d.word ps).2) (hmn : m ≤ n) :
    Calls Try.prog 36 #[.slice A n c, .slice B m c2, .int .i64 0, d.val] w fun e w' => e = .returned (.bool true) ∧ Ext w w' := by
  have n2 : n ≤ 131072 := by have := (mayL_of hY).l2; omega
  have HR1 := Lib.hid (fun W hW => codeRunYes A n c ps W hp hok hW hY d hd)
  have HR2 := Lib.hid (fun W hW => codeRunYes B m c2 qs W hq hok2 hW hZ d hd)
  have HMY := Lib.hid (fun W hW => codeMay B m c2 qs W hq hok2 (by unfold maxLen; omega) hW)
  rw [hZ] at HMY
  have HM := Lib.hid hM
  have HN := Lib.hid hN
  generalize runS d.word ps = S at *
  generalize runS d.word qs = T at *
  obtain ⟨sa, ss⟩ := S
  obtain ⟨ta, ts⟩ := T
  dsimp only at h1 h2 HR1 HR2
  subst h1
  have f1 : decide ((ts : Int) ≤ ss) = true := by simp; omega
  have f1' : (ts : Int) ≤ ss := by omega
  have f2 : decide ((m : Int) ≤ n) = true := by simp; omega
  have f2' : (m : Int) ≤ n := by omega
  have f3 : (ta == ta) = true := by simp
  clear hd hp hq hok hok2 hY hZ hM hN h2 hmn n2
  obtain ⟨nr, arch, ip, a0, a1, a2, a3, a4, a5⟩ := d
  have hxd := (Ext.refl w).alloc (.cells #[.int .u32 nr, .int .u32 arch, .int .u64 ip, .int .u64 a0, .int .u64 a1, .int .u64 a2, .int .u64 a3, .int .u64 a4, .int .u64 a5] 53)
  have hbd := Blk.new w 53 #[.int .u32 nr, .int .u32 arch, .int .u64 ip, .int .u64 a0, .int .u64 a1, .int .u64 a2, .int .u64 a3, .int .u64 a4, .int .u64 a5]
  dsimp only [Dat.val] at *
  have r0 := (hbd).cell 0
  have r1 := (hbd).cell 1
  have r2 := (hbd).cell 2
  have r3 := (hbd).cell 3
  have r4 := (hbd).cell 4
  have r5 := (hbd).cell 5
  have r6 := (hbd).cell 6
  have r7 := (hbd).cell 7
  have r8 := (hbd).cell 8
  go_enter Try.func36, Try.ntmps36
  go_wp2_with fail
  refine (HR1.out _ (HM.out.ext hxd)).mono ?_
  rintro e w1 ⟨rfl, hx1⟩
  have hb1 := hbd.ext hx1
  clear r0 r1 r2 r3 r4 r5 r6 r7 r8
  have r0 := (hb1).cell 0
  have r1 := (hb1).cell 1
  have r2 := (hb1).cell 2
  have r3 := (hb1).cell 3
  have r4 := (hb1).cell 4
  have r5 := (hb1).cell 5
  have r6 := (hb1).cell 6
  have r7 := (hb1).cell 7
  have r8 := (hb1).cell 8
  go_wp2_with fail
  refine (HR2.out _ (HN.out.ext (hxd.trans hx1))).mono ?_
  rintro e w2 ⟨rfl, hx2⟩
  clear r0 r1 r2 r3 r4 r5 r6 r7 r8
  go_wp2_with fail
  refine (HMY.out _ (HN.out.ext (hxd.trans (hx1.trans hx2)))).mono ?_
  rintro e w3 ⟨rfl, hx3⟩
  go_wp2_with fail
  go_ret
  exact ⟨rfl, hxd.trans (hx1.trans (hx2.trans hx3))⟩
set_option maxHeartbeats 4000000 in
set_option maxRecDepth 100000 in
theorem optSame_walk (A : Option Addr) (n c : Nat) (ps : List Sy) (hp : ps.length = n) (hm : n ≤ c ∧ c ≤ maxLen) (hok : ∀ i ∈ ps, i.ok) {w : World} (hM : InM w A (sc ps)) (d : Dat) (hd : d.ok) (_ : World) :
    Calls Try.prog 9 #[.slice A n c, d.val] w fun e w' => e = .returned (.bool true) ∧ Ext w w' := by
  have HAW := Lib.hid (fun W => awake26 W)
  have HM := Lib.hid hM
  by_cases big : 300 < n
  · have d1 : (300 : Int) < n := by omega
    clear hp hm hok hM hd
    obtain ⟨nr, arch, ip, a0, a1, a2, a3, a4, a5⟩ := d
    have hxd := (Ext.refl w).alloc (.cells #[.int .u32 nr, .int .u32 arch, .int .u64 ip, .int .u64 a0, .int .u64 a1, .int .u64 a2, .int .u64 a3, .int .u64 a4, .int .u64 a5] 53)
    have hbd := Blk.new w 53 #[.int .u32 nr, .int .u32 arch, .int .u64 ip, .int .u64 a0, .int .u64 a1, .int .u64 a2, .int .u64 a3, .int .u64 a4, .int .u64 a5]
    dsimp only [Dat.val] at *
    have HBD := Lib.hid hbd
    clear hbd
    go_enter Try.func9, Try.ntmps9
    go_wp2_with fail
    refine (HAW.out _).mono ?_
    rintro e w1 ⟨rfl, hx1⟩
    have hx := hxd.trans hx1
    have HB1 := Lib.hid (HBD.out.ext hx1)
    generalize w.heap.size = gd at *
    clear hxd hx1 HBD
    go_wp2_with fail
    go_ret
    exact ⟨rfl, hx⟩
  have d1 : ¬ (300 : Int) < n := by omega
  have hn : n ≤ maxLen := by omega
  have HMay := Lib.hid (fun W hW => codeMay A n c ps W hp hok hn hW)
  cases hmay : mayL ps with
  | false =>
    rw [hmay] at HMay
    clear hp hm hok hM hd hn big hmay
    obtain ⟨nr, arch, ip, a0, a1, a2, a3, a4, a5⟩ := d
    have hxd := (Ext.refl w).alloc (.cells #[.int .u32 nr, .int .u32 arch, .int .u64 ip, .int .u64 a0, .int .u64 a1, .int .u64 a2, .int .u64 a3, .int .u64 a4, .int .u64 a5] 53)
    have hbd := Blk.new w 53 #[.int .u32 nr, .int .u32 arch, .int .u64 ip, .int .u64 a0, .int .u64 a1, .int .u64 a2, .int .u64 a3, .int .u64 a4, .int .u64 a5]
    dsimp only [Dat.val] at *
    have HBD := Lib.hid hbd
    clear hbd
    go_enter Try.func9, Try.ntmps9
    go_wp2_with fail
    refine (HAW.out _).mono ?_
    rintro e w1 ⟨rfl, hx1⟩
    have hx := hxd.trans hx1
    have HB1 := Lib.hid (HBD.out.ext hx1)
    generalize w.heap.size = gd at *
    clear hxd hx1 HBD
    go_wp2_with fail
    refine (HMay.out _ (HM.out.ext hx)).mono ?_
    rintro e w3 ⟨rfl, hx3⟩
    go_wp2_with fail
    go_ret
    exact ⟨rfl, hx.trans hx3⟩
  | true =>
    have hY := mayL_of hmay
    have n1 : 1 ≤ n := by have := hY.l1; omega
    obtain ⟨bA, oA, rfl, hbA⟩ := sym_some hM (by omega)
    have hu3 := dead_le ps
    have hu4 := opt_le hY
    rw [hp] at hu3 hu4
    have HT := Lib.hid (fun W hW => topThreadYes bA oA n c ps W hp hok hn hW hmay)
    have HSH := Lib.hid (fun W hW => topShareYes bA oA n c ps W hp hok hn hW hmay)
    have HD := Lib.hid (fun W hW => topDeadYes bA oA n c ps W hp hok hn hW hmay)
    have HO := Lib.hid (fun W hW => topOptYes bA oA n c ps W hp hok hn hW hmay)
    have hts := thr_ok hY (thread_thr hY) hok
    have hso := share_sy hY hok
    have hsY := share_may hY
    have hto := thr_ok hsY (thread_thr hsY) hso
    have hoo := dead_ok (thread_may hsY) hto
    have S1 := Lib.hid (fun B c2 W hW hV => same26 (some ⟨bA, oA, none⟩) B n c n c2 ps (threadL ps) W d hd hp (by rw [thread_len hY]; exact hp) hok hts hmay (mayL_mk (thread_may hY)) hW hV (thread_run hY d.word).1 (thread_run hY d.word).2 (Nat.le_refl _))
    have S2 := Lib.hid (fun B c2 W hW hV => same26 (some ⟨bA, oA, none⟩) B n c n c2 ps (shareL ps) W d hd hp (by rw [share_len]; exact hp) hok hso hmay (mayL_mk hsY) hW hV (by rw [share_run hY]) (by rw [share_run hY]; exact Nat.le_refl _) (Nat.le_refl _))
    have S3 := Lib.hid (fun B c2 W hW hV => same26 (some ⟨bA, oA, none⟩) B n c (deadL ps).length c2 ps (deadL ps) W d hd hp rfl hok (dead_ok hY hok) hmay (mayL_mk (dead_may hY)) hW hV (by rw [dead_run hY]) (by rw [dead_run hY]; exact Nat.le_refl _) hu3)
    have S4 := Lib.hid (fun B c2 W hW hV => same26 (some ⟨bA, oA, none⟩) B n c (optL ps).length c2 ps (optL ps) W d hd hp rfl hok hoo hmay (mayL_mk (opt_may hY)) hW hV (opt_run hY d.word).1 (opt_run hY d.word).2 hu4)
    rw [hmay] at HMay
    unfold TopR at HT HSH HD HO
    generalize threadL ps = tl at *
    generalize shareL ps = sl at *
    generalize deadL ps = dl at *
    generalize optL ps = ol at *
    generalize dl.length = m3 at HD S3
    generalize ol.length = m4 at HO S4
    have f6 : ((n : Int) == n) = true := by simp
    clear hp hm hok hM hmay big hn hY hbA hu3 hu4 n1 hd hts hso hsY hto hoo
    obtain ⟨nr, arch, ip, a0, a1, a2, a3, a4, a5⟩ := d
    have hxd := (Ext.refl w).alloc (.cells #[.int .u32 nr, .int .u32 arch, .int .u64 ip, .int .u64 a0, .int .u64 a1, .int .u64 a2, .int .u64 a3, .int .u64 a4, .int .u64 a5] 53)
    have hbd := Blk.new w 53 #[.int .u32 nr, .int .u32 arch, .int .u64 ip, .int .u64 a0, .int .u64 a1, .int .u64 a2, .int .u64 a3, .int .u64 a4, .int .u64 a5]
    dsimp only [Dat.val] at *
    have HBD := Lib.hid hbd
    clear hbd
    go_enter Try.func9, Try.ntmps9
    go_wp2_with fail
    refine (HAW.out _).mono ?_
    rintro e w1 ⟨rfl, hx1⟩
    have hx := hxd.trans hx1
    have HB1 := Lib.hid (HBD.out.ext hx1)
    generalize w.heap.size = gd at *
    clear hxd hx1 HBD
    go_wp2_with fail
    refine (HMay.out _ (HM.out.ext hx)).mono ?_
    rintro e w2 ⟨rfl, hx2⟩
    have hE2 := hx.trans hx2
    go_wp2_with fail
    refine (HT.out _ (HM.out.ext hE2)).mono ?_
    rintro e w3 ⟨g3, c3, m3', rfl, hb3, -, hx3⟩
    have hE3 := hE2.trans hx3
    go_wp2_with fail
    refine (HSH.out _ (HM.out.ext hE3)).mono ?_
    rintro e w4 ⟨g4, c4, m4', rfl, hb4, -, hx4⟩
    have hE4 := hE3.trans hx4
    go_wp2_with fail
    refine (HD.out _ (HM.out.ext hE4)).mono ?_
    rintro e w5 ⟨g5, c5, m5', rfl, hb5, -, hx5⟩
    have hE5 := hE4.trans hx5
    go_wp2_with fail
    refine (HO.out _ (HM.out.ext hE5)).mono ?_
    rintro e w6 ⟨g6, c6, m6', rfl, hb6, -, hx6⟩
    have hE6 := hE5.trans hx6
    have X6 := hx2.trans (hx3.trans (hx4.trans (hx5.trans hx6)))
    have I3 := Lib.hid (InM.ofBlk (hb3.ext (hx4.trans (hx5.trans hx6))) rfl).prefix_
    have I4 := Lib.hid (InM.ofBlk (hb4.ext (hx5.trans hx6)) rfl).prefix_
    have I5 := Lib.hid (InM.ofBlk (hb5.ext hx6) rfl).prefix_
    have I6 := Lib.hid (InM.ofBlk hb6 rfl).prefix_
    clear hb3 hb4 hb5 hb6 hx2 hx3 hx4 hx5 hx6 hE2 hE3 hE4 hE5
    have hb7 := HB1.out.ext X6
    have r0 := (hb7).cell 0
    have r1 := (hb7).cell 1
    have r2 := (hb7).cell 2
    have r3 := (hb7).cell 3
    have r4 := (hb7).cell 4
    have r5 := (hb7).cell 5
    have r6 := (hb7).cell 6
    have r7 := (hb7).cell 7
    have r8 := (hb7).cell 8
    go_wp2_with fail
    refine (S1.out _ _ _ (HM.out.ext hE6) I3.out).mono ?_
    rintro e w7 ⟨rfl, hx7⟩
    clear r0 r1 r2 r3 r4 r5 r6 r7 r8
    have X7 := X6.trans hx7
    have hE7 := hE6.trans hx7
    have hb8 := HB1.out.ext X7
    have r0 := (hb8).cell 0
    have r1 := (hb8).cell 1
    have r2 := (hb8).cell 2
    have r3 := (hb8).cell 3
    have r4 := (hb8).cell 4
    have r5 := (hb8).cell 5
    have r6 := (hb8).cell 6
    have r7 := (hb8).cell 7
    have r8 := (hb8).cell 8
    go_wp2_with fail
    refine (S2.out _ _ _ (HM.out.ext hE7) (I4.out.ext hx7)).mono ?_
    rintro e w8 ⟨rfl, hx8⟩
    clear r0 r1 r2 r3 r4 r5 r6 r7 r8
    have X8 := X7.trans hx8
    have hE8 := hE7.trans hx8
    have hb9 := HB1.out.ext X8
    have r0 := (hb9).cell 0
    have r1 := (hb9).cell 1
    have r2 := (hb9).cell 2
    have r3 := (hb9).cell 3
    have r4 := (hb9).cell 4
    have r5 := (hb9).cell 5
    have r6 := (hb9).cell 6
    have r7 := (hb9).cell 7
    have r8 := (hb9).cell 8
    go_wp2_with fail
    refine (S3.out _ _ _ (HM.out.ext hE8) (I5.out.ext (hx7.trans hx8))).mono ?_
    rintro e w9 ⟨rfl, hx9⟩
    clear r0 r1 r2 r3 r4 r5 r6 r7 r8
    have X9 := X8.trans hx9
    have hE9 := hE8.trans hx9
    have hb10 := HB1.out.ext X9
    have r0 := (hb10).cell 0
    have r1 := (hb10).cell 1
    have r2 := (hb10).cell 2
    have r3 := (hb10).cell 3
    have r4 := (hb10).cell 4
    have r5 := (hb10).cell 5
    have r6 := (hb10).cell 6
    have r7 := (hb10).cell 7
    have r8 := (hb10).cell 8
    go_wp2_with fail
    refine (S4.out _ _ _ (HM.out.ext hE9) (I6.out.ext (hx7.trans (hx8.trans hx9)))).mono ?_
    rintro e w10 ⟨rfl, hx10⟩
    clear r0 r1 r2 r3 r4 r5 r6 r7 r8
    have hE10 := hE9.trans hx10
    go_wp2_with fail
    go_ret
    exact ⟨rfl, hE10⟩
end Go.Proofs.Ytjlhfmedaandeaa
