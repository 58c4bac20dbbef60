import Derived.Test.YtkejcfbhikpibaaVmr5
import Derived.Test.YtkejcfbhikpibaaVm11
import Derived.Deep.RegionWith
/- The document's machine: a run. -/
namespace Go.Proofs.Ytkejcfbhikpibaa
open Go.RowKit Go.ChangeShapes Go.WideShapes
set_option linter.unusedVariables false
set_option linter.unusedSimpArgs false

theorem run_next {d : Dat} {ps : List Ins} {f at_ : Nat} {s : Vm} {beh : Int} {tr : List Nat} {R : Res} (h : s.over = false) (k : at_ < ps.length) (he : (stepE d ps[at_] s).2.2 = 0) (hr : runE d ps (f + 1 + 1) at_ s beh tr = R) :
    ((stepE d ps[at_] s).1.over = true → R = ⟨(stepE d ps[at_] s).1.told, (tr ++ [at_]).length, tr ++ [at_], 0⟩) ∧
    runE d ps (f + 1) (at_ + (1 + (stepE d ps[at_] s).2.1.toNat)) (stepE d ps[at_] s).1 (behE ps[at_].code) (tr ++ [at_]) = R := by
  rw [run_step h k he] at hr
  refine ⟨fun ho => ?_, hr⟩
  rw [← hr, run_over ho]

set_option maxHeartbeats 4000000 in
set_option maxRecDepth 100000 in
theorem refRun (A : Option Addr) (n c : Nat) (ps : List Ins) (hp : ps.length = n) (hok : ∀ i ∈ ps, i.ok) (hn : n ≤ 100000) (d : Dat) (hd : d.ok) (w : World) (hM : InM w A (pc ps)) :
    Calls Try.prog 18 #[.slice A n c, d.val] w fun e w' => ∃ L cl, e = .returned (.tuple #[.int .u32 (runR d ps).ans, .int .i64 (runR d ps).steps, .slice L (runR d ps).tr.length cl, .int .i64 (runR d ps).err]) ∧
      InM w' L (nums .i64 (ints (runR d ps).tr)) ∧ Ext w w' := by
  obtain ⟨i0, hi, hz0, hz1, hz2⟩ := info_parts info_int'
  have HI := Lib.hid hi; have HZ0 := Lib.hid hz0; have HZ1 := Lib.hid hz1; have HZ2 := Lib.hid hz2
  have HM := Lib.hid hM
  have HD := Lib.hid hd
  have HP := Lib.hid hp
  have HOK := Lib.hid hok
  clear hM hd hp hok hi hz0 hz1 hz2
  obtain ⟨R, hR⟩ : ∃ R, runR d ps = R := ⟨_, rfl⟩
  rw [hR]
  unfold runR at hR
  rw [HP.out] at hR
  have HR := Lib.hid hR
  clear hR
  obtain ⟨nr, arch, ip, a0, a1, a2, a3, a4, a5⟩ := d
  go_enter Try.func18, Try.ntmps18
  go_wp2_with fail
  have hx0 : Ext w ((w.alloc (.cells #[.int .u32 nr, .int .u32 arch, .int .u64 ip, .int .u64 a0, .int .u64 a1, .int .u64 a2, .int .u64 a3, .int .u64 a4, .int .u64 a5] 36)).alloc (.cells #[.int .u32 0, .int .u32 0, .int .u32 0, .int .u32 0, .int .u32 0, .int .u32 0, .int .u32 0, .int .u32 0, .int .u32 0, .int .u32 0, .int .u32 0, .int .u32 0, .int .u32 0, .int .u32 0, .int .u32 0, .int .u32 0, .int .u32 0, .int .u32 0, .int .u32 0, .bool false] 62)) := ((Ext.refl w).alloc _).alloc _
  have bd0 : Blk ((w.alloc (.cells #[.int .u32 nr, .int .u32 arch, .int .u64 ip, .int .u64 a0, .int .u64 a1, .int .u64 a2, .int .u64 a3, .int .u64 a4, .int .u64 a5] 36)).alloc (.cells #[.int .u32 0, .int .u32 0, .int .u32 0, .int .u32 0, .int .u32 0, .int .u32 0, .int .u32 0, .int .u32 0, .int .u32 0, .int .u32 0, .int .u32 0, .int .u32 0, .int .u32 0, .int .u32 0, .int .u32 0, .int .u32 0, .int .u32 0, .int .u32 0, .int .u32 0, .bool false] 62)) w.heap.size 36 #[.int .u32 nr, .int .u32 arch, .int .u64 ip, .int .u64 a0, .int .u64 a1, .int .u64 a2, .int .u64 a3, .int .u64 a4, .int .u64 a5] := (Blk.new w _ _).alloc _
  have rb0 : RB ((w.alloc (.cells #[.int .u32 nr, .int .u32 arch, .int .u64 ip, .int .u64 a0, .int .u64 a1, .int .u64 a2, .int .u64 a3, .int .u64 a4, .int .u64 a5] 36)).alloc (.cells #[.int .u32 0, .int .u32 0, .int .u32 0, .int .u32 0, .int .u32 0, .int .u32 0, .int .u32 0, .int .u32 0, .int .u32 0, .int .u32 0, .int .u32 0, .int .u32 0, .int .u32 0, .int .u32 0, .int .u32 0, .int .u32 0, .int .u32 0, .int .u32 0, .int .u32 0, .bool false] 62)) (w.heap.size + 1) vm0 := ⟨Blk.new_ (by simp), rfl⟩
  generalize (w.alloc (.cells #[.int .u32 nr, .int .u32 arch, .int .u64 ip, .int .u64 a0, .int .u64 a1, .int .u64 a2, .int .u64 a3, .int .u64 a4, .int .u64 a5] 36)).alloc (.cells #[.int .u32 0, .int .u32 0, .int .u32 0, .int .u32 0, .int .u32 0, .int .u32 0, .int .u32 0, .int .u32 0, .int .u32 0, .int .u32 0, .int .u32 0, .int .u32 0, .int .u32 0, .int .u32 0, .int .u32 0, .int .u32 0, .int .u32 0, .int .u32 0, .int .u32 0, .bool false] 62) = w0 at *
  have HDO0 := Lib.hid (fun i hi s ho W B => rdo_any i hi (w.heap.size + 1) ⟨nr, arch, ip, a0, a1, a2, a3, a4, a5⟩ HD.out s ho W B)
  have HRN := Lib.hid (fun f at_ s beh tr R => run_next (d := ⟨nr, arch, ip, a0, a1, a2, a3, a4, a5⟩) (ps := ps) (f := f) (at_ := at_) (s := s) (beh := beh) (tr := tr) (R := R))
  have HRE := Lib.hid (fun f at_ s beh tr => run_err (d := ⟨nr, arch, ip, a0, a1, a2, a3, a4, a5⟩) (ps := ps) (f := f) (at_ := at_) (s := s) (beh := beh) (tr := tr))
  have HSO0 := Lib.hid (fun i hi s ho => step_ok ⟨nr, arch, ip, a0, a1, a2, a3, a4, a5⟩ HD.out i hi s ho)
  generalize hdd : (⟨nr, arch, ip, a0, a1, a2, a3, a4, a5⟩ : Dat) = d at *
  have HDV := Lib.hid (show d.val = .agg #[.int .u32 nr, .int .u32 arch, .int .u64 ip, .int .u64 a0, .int .u64 a1, .int .u64 a2, .int .u64 a3, .int .u64 a4, .int .u64 a5] from by rw [← hdd])
  clear hdd
  generalize d.val = V1
  go_loopw [9, 10, 11] (fun sl ap be wr => ∃ (f at_ : Nat) (s : Vm) (beh : Int) (tr : List Nat) (B : Option Addr) (cl : Nat), sl = .slice B tr.length cl ∧ ap = .int .i64 at_ ∧ be = .int .i64 beh ∧ s.over = false ∧ runE d ps (f + 1) at_ s beh tr = R ∧ s.ok ∧ RB wr (w.heap.size + 1) s ∧
      wr.ownsRow (w.heap.size + 2) 3 1 (.slice B tr.length cl) tr.length (nums .i64 (ints tr)) ∧ Ext w wr ∧ w.heap.size + 2 ≤ wr.heap.size ∧ Blk wr w.heap.size 36 #[.int .u32 nr, .int .u32 arch, .int .u64 ip, .int .u64 a0, .int .u64 a1, .int .u64 a2, .int .u64 a3, .int .u64 a4, .int .u64 a5] ∧ tr.length ≤ at_ ∧ n + 1 ≤ f + at_ ∧ at_ ≤ n + 4294967296)
    (fun _ ap _ _ => n - (intOf ap).toNat)
  case atStart => exact ⟨n + 1, 0, vm0, 46, [], none, 0, rfl, rfl, rfl, rfl, HR.out, vm0_ok, rb0, (World.ownsRow_nil w0 (w.heap.size + 2) 3 1 : w0.ownsRow (w.heap.size + 2) 3 1 (.slice none ([] : List Nat).length 0) ([] : List Nat).length (nums .i64 (ints []))), hx0, by have := rb0.blk.lt; omega, bd0, Nat.le_refl _, by omega, by omega⟩
  case round =>
    clear hx0 bd0 rb0
    obtain ⟨f, at_, s, beh, tr, B, cl, rfl, rfl, rfl, hov, hrun, hso, hB, hrow, hx, hz4, bd, htl, hf, hat⟩ := hrel
    have HRUN := Lib.hid hrun
    have HSO := Lib.hid hso
    have HOV := Lib.hid hov
    clear hrun hso hov
    by_cases hlt : at_ < n
    · have hkp : at_ < ps.length := by rw [HP.out]; exact hlt
      have hMr := HM.out.ext hx
      obtain ⟨b0, o0, rfl, hb0⟩ := prog_some hMr (by omega)
      have k1 : (0 : Int) ≤ at_ := by omega
      have k2 : ¬ (n : Int) ≤ at_ := by omega
      have k3 : (at_ : Int) < n := by omega
      have hik := HOK.out _ (List.getElem_mem hkp)
      have HDO := Lib.hid (fun W B => HDO0.out ps[at_] hik s HSO.out W B)
      have HO := Lib.hid (fun W => refOf_any (ps[at_]).code W)
      obtain ⟨f, rfl⟩ : ∃ f', f = f' + 1 := ⟨f - 1, by omega⟩
      have HST := Lib.hid (fun he => HRN.out f at_ s beh tr R HOV.out hkp he HRUN.out)
      have HER := Lib.hid (fun he => (HRE.out (f + 1) at_ s beh tr HOV.out hkp he).symm.trans HRUN.out)
      have HSK := step_skip d ps[at_] hik s
      have HSO' := Lib.hid (HSO0.out ps[at_] hik s HSO.out)
      have HQ := Lib.hid (fun W (h : Ext w W) => prog_cells (HM.out.ext h) hkp)
      have HBE := Lib.hid (show behE (ps[at_]).code = if clsOf (ps[at_]).code = 4 then 42 else 46 from rfl)
      have HCL := Lib.hid (show (byO (ps[at_]).code).1.cls = clsOf (ps[at_]).code from by rw [← by_same]; rfl)
      clear hMr HRUN HRN HRE HSO0 HDO0
      generalize ps[at_] = P at *
      obtain ⟨co, jt, jf, kk⟩ := P
      generalize stepE d ⟨co, jt, jf, kk⟩ s = r at *
      obtain ⟨s', sk, er⟩ := r
      obtain ⟨m, rfl⟩ : ∃ m : Nat, sk = m := ⟨sk.toNat, by have := HSK.1; dsimp only at this; omega⟩
      have hm1 : (m : Int) < 4294967296 := HSK.2
      have hm0 : (0 : Int) ≤ m := by omega
      dsimp only at HO HDO HST HER HSO' HQ HBE HCL
      simp only [Ins.val, Ins.cells] at HDO
      rw [HDV.out] at HDO
      rw [show (findO fun e => e.code == co) = byO co from rfl] at HO
      generalize (byO co).1 = E at *
      obtain ⟨ec, en, eq⟩ := E
      simp only [Ent.val, Ent.cells] at HO
      have hfld := one_field2 ec eq en
      obtain rfl : eq = clsOf co := HCL.out
      generalize clsOf co = q at *
      clear HSK hik HCL
      have HROW := Lib.hid hrow
      have HX := Lib.hid hx
      have HB := Lib.hid hB
      have HZ4 := Lib.hid hz4
      have HBD := Lib.hid bd
      have HAT := Lib.hid (And.intro hat (And.intro hf htl))
      have HLEN := Lib.hid (show tr.length + 1 ≤ 1000000 from by omega)
      obtain ⟨q0, q1, q2, q3⟩ := HQ.out _ HX.out
      have r0 := bd.cell 0
      have r1 := bd.cell 1
      have r2 := bd.cell 2
      have r3 := bd.cell 3
      have r4 := bd.cell 4
      have r5 := bd.cell 5
      have r6 := bd.cell 6
      have r7 := bd.cell 7
      have r8 := bd.cell 8
      clear hrow hx hB hz4 bd hat hf htl hlt hkp
      go_wp2_with fail
      go_region_with (go_at_call 32; refine (HDO.out _ HB.out.drew).mono ?_; rintro e w2 ⟨rfl, hu, hB2⟩)
      all_goals
        have hu : Upd (w.heap.size + 1) wr w2 := (Upd.refl _ wr).drew.trans hu
        have HR2 := Lib.hid (own_upd HROW.out hu (by omega))
        have HBD2 := Lib.hid (hu.blk HBD.out (by omega))
        have HX2 := Lib.hid (hu.toExt HX.out (by omega))
        have HZ2 := Lib.hid (Nat.le_trans HZ4.out hu.size)
        have HXA := Lib.hid (HX2.out.alloc (.cells #[.int .i64 at_] 3))
        have HRA := Lib.hid (own_ext HR2.out ((Ext.refl w2).alloc (.cells #[.int .i64 at_] 3)))
        have HBA := Lib.hid (hB2.ext ((Ext.refl w2).alloc (.cells #[.int .i64 at_] 3)))
        have HBDA := Lib.hid (HBD2.out.alloc (.cells #[.int .i64 at_] 3))
        have HZA := Lib.hid (show w.heap.size + 2 ≤ (w2.alloc (.cells #[.int .i64 at_] 3)).heap.size from by simp; have := HZ2.out; omega)
        have l8 : (0 : Int) ≤ tr.length := by omega
        have l9 : (tr.length : Int) < 1000000 := by have := HLEN.out; omega
        clear HDO HROW HBD HX HB HZ4 hu hB2 HZ2 HX2 HR2 HBD2 q0 q1 q2 q3 r0 r1 r2 r3 r4 r5 r6 r7 r8
        by_cases he : er = 0
        · obtain ⟨HOV1, HRR⟩ := HST.out he
          have HOV1 := Lib.hid HOV1
          have HRR := Lib.hid HRR
          subst he
          clear HST HER
          rcases hov' : s'.over with _ | _
          · have HOV2 := Lib.hid hov'
            clear hov'
            go_wp2_with (at_builtin; refine wpList_app rfl (.tmp 31) (.tmp 33) 41 rfl (w.heap.size + 2) 3 i0 (.int .i64 0) 1 8 Try.underlying41 HI.out HZ0.out HZ1.out HZ2.out rfl (by decide) B tr.length cl _ rfl HRA.out _ 1 1 [.int .i64 at_] rfl rfl (inM_new rfl) (by simp [Value.oneCell']) HLEN.out (by decide) HZA.out ?_; intro B' c' w3 hown3 hg3 hat3; have HOWN := Lib.hid hown3; have HG := Lib.hid hg3; clear hown3 hg3 hat3; have HB3 := Lib.hid (RB.mk (grown_blk HRA.out HG.out HBA.out.blk (by omega)) HBA.out.len); have y1 := HB3.out.over; have y2 := HB3.out.told; rw [HOV2.out] at y1; have HX3 := Lib.hid (HXA.out.app HRA.out (by omega) HG.out); obtain ⟨q0, q1, q2, q3⟩ := HQ.out _ HX3.out)
            clear q0 q1 q2 q3 y1 y2
            refine (HO.out _).mono ?_
            rintro e w4 ⟨rfl, hx4⟩
            have HX4 := Lib.hid (HX3.out.trans hx4)
            have HB4 := Lib.hid (HB3.out.ext hx4)
            have HR4 := Lib.hid (own_ext HOWN.out hx4)
            have HBD4 := Lib.hid ((grown_blk HRA.out HG.out HBDA.out (by omega)).ext hx4)
            have HZ5 := Lib.hid (Nat.le_trans HZA.out (Nat.le_trans HG.out.size hx4.size))
            clear hx4 HXA HRA HBA HBDA HZA HOWN HG HB3 HX3
            by_cases hq : q = 4
            · subst hq
              have HBB : behE co = 42 := HBE.out
              rw [HBB] at HRR
              clear HBB HBE
              go_wp2_with fail
              go_roundw
              case rel =>
                obtain ⟨ha1, ha2, ha3⟩ := HAT.out
                refine ⟨f, at_ + (1 + m), s', 42, tr ++ [at_], B', c', by simp, by go_num, rfl, HOV2.out, ?_, HSO'.out, HB4.out, ?_, HX4.out, HZ5.out, HBD4.out, by simp; omega, by omega, by omega⟩
                · have := HRR.out
                  rwa [Int.toNat_natCast] at this
                · have := HR4.out
                  rw [List.length_append, ints_append, nums_append]
                  exact this
              case measure =>
                simp [intOf]
                omega
            · have hq2 : (q == 4) = false := by simpa using hq
              have HBB : behE co = 46 := HBE.out.trans (if_neg hq)
              clear hq
              rw [HBB] at HRR
              clear HBB HBE
              go_wp2_with fail
              go_roundw
              case rel =>
                obtain ⟨ha1, ha2, ha3⟩ := HAT.out
                refine ⟨f, at_ + (1 + m), s', 46, tr ++ [at_], B', c', by simp, by go_num, rfl, HOV2.out, ?_, HSO'.out, HB4.out, ?_, HX4.out, HZ5.out, HBD4.out, by simp; omega, by omega, by omega⟩
                · have := HRR.out
                  rwa [Int.toNat_natCast] at this
                · have := HR4.out
                  rw [List.length_append, ints_append, nums_append]
                  exact this
              case measure =>
                simp [intOf]
                omega
          · have HOV2 := Lib.hid hov'
            have HRR9 := Lib.hid (HOV1.out hov')
            clear hov' HRR HOV1
            go_wp2_with (at_builtin; refine wpList_app rfl (.tmp 31) (.tmp 33) 41 rfl (w.heap.size + 2) 3 i0 (.int .i64 0) 1 8 Try.underlying41 HI.out HZ0.out HZ1.out HZ2.out rfl (by decide) B tr.length cl _ rfl HRA.out _ 1 1 [.int .i64 at_] rfl rfl (inM_new rfl) (by simp [Value.oneCell']) HLEN.out (by decide) HZA.out ?_; intro B' c' w3 hown3 hg3 hat3; have HOWN := Lib.hid hown3; have HG := Lib.hid hg3; clear hown3 hg3 hat3; have HB3 := Lib.hid (RB.mk (grown_blk HRA.out HG.out HBA.out.blk (by omega)) HBA.out.len); have y1 := HB3.out.over; have y2 := HB3.out.told; rw [HOV2.out] at y1)
            have HX3 := HXA.out.app HRA.out (by omega) HG.out
            have hm3 := own_inM HOWN.out
            refine bodyPost_ret (v := .tuple #[.int .u32 s'.told, .int .i64 (tr.length + 1), .slice B' (tr.length + 1) c', .int .i64 0]) (by simp [results, Try.results18, go_sem]) rfl ?_
            have e1 : Ending.returned (.tuple #[.int .u32 s'.told, .int .i64 (tr.length + 1), .slice B' (tr.length + 1) c', .int .i64 0]) = .returned (.tuple #[.int .u32 s'.told, .int .i64 (tr ++ [at_]).length, .slice B' (tr ++ [at_]).length c', .int .i64 0]) := by simp
            have e2 : InM w3 B' (nums .i64 (ints (tr ++ [at_]))) := by
              rw [ints_append, nums_append]
              exact hm3
            have hRR := HRR9.out
            subst hRR
            exact ⟨B', c', e1, e2, HX3⟩
        · have hne : (er != 0) = true := by simpa using he
          have HRR9 := Lib.hid (HER.out he)
          clear HST HER he
          go_wp2_with (at_builtin; refine wpList_app rfl (.tmp 31) (.tmp 33) 41 rfl (w.heap.size + 2) 3 i0 (.int .i64 0) 1 8 Try.underlying41 HI.out HZ0.out HZ1.out HZ2.out rfl (by decide) B tr.length cl _ rfl HRA.out _ 1 1 [.int .i64 at_] rfl rfl (inM_new rfl) (by simp [Value.oneCell']) HLEN.out (by decide) HZA.out ?_; intro B' c' w3 hown3 hg3 hat3; have HOWN := Lib.hid hown3; have HG := Lib.hid hg3; clear hown3 hg3 hat3; have HB3 := Lib.hid (RB.mk (grown_blk HRA.out HG.out HBA.out.blk (by omega)) HBA.out.len); have y1 := HB3.out.over; have y2 := HB3.out.told)
          have HX3 := HXA.out.app HRA.out (by omega) HG.out
          have hm3 := own_inM HOWN.out
          refine bodyPost_ret (v := .tuple #[.int .u32 0, .int .i64 tr.length, .slice B' (tr.length + 1) c', .int .i64 er]) (by simp [results, Try.results18, go_sem]) rfl ?_
          have e1 : Ending.returned (.tuple #[.int .u32 0, .int .i64 tr.length, .slice B' (tr.length + 1) c', .int .i64 er]) = .returned (.tuple #[.int .u32 0, .int .i64 tr.length, .slice B' (tr ++ [at_]).length c', .int .i64 er]) := by simp
          have e2 : InM w3 B' (nums .i64 (ints (tr ++ [at_]))) := by
            rw [ints_append, nums_append]
            exact hm3
          have hRR := HRR9.out
          subst hRR
          exact ⟨B', c', e1, e2, HX3⟩
    · have k2 : (n : Int) ≤ at_ := by omega
      have hRR := (run_end HOV.out (by rw [HP.out]; exact hlt)).symm.trans HRUN.out
      have HROW := Lib.hid hrow
      have HRR9 := Lib.hid hRR
      clear hrow hB HRUN hRR
      go_wp2_with fail
      refine bodyPost_ret (v := .tuple #[.int .u32 0, .int .i64 tr.length, .slice B tr.length cl, .int .i64 beh]) (by simp [results, Try.results18, go_sem]) rfl ?_
      have hRR := HRR9.out
      subst hRR
      exact ⟨B, cl, rfl, own_inM HROW.out, hx⟩
end Go.Proofs.Ytkejcfbhikpibaa
