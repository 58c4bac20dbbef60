import Derived.Test.YtjlhfmedaandeaaMoved1
/- opt.moved, at each of its three closures. -/
namespace Go.Proofs.Ytjlhfmedaandeaa
open Go.RowKit Go.ChangeShapes Go.WideShapes
set_option linter.unusedVariables false
set_option linter.unusedSimpArgs false

set_option maxHeartbeats 4000000 in
set_option maxRecDepth 100000 in
theorem movedT (gb : Nat) (f : Int → Int) (P : Int → Prop) (b o n c : Nat) (ps : List Sy) (w : World) (hp : ps.length = n) (n1 : 1 ≤ n) (n2 : n ≤ 131072) (hM : InM w (some ⟨b, o, none⟩) (sc ps))
    (HK : ∀ i, i < n → ∃ a m, Kind (ps.getD i zeroS) a m) (HT : ∀ i, i < n → ∀ t, Tgt (ps.getD i zeroS) t → P t)
    (HF : ∀ W t, Ext w W → P t → Calls Try.prog 68 #[.int .i64 t, .pointer (some ⟨gb, 0, none⟩)] W fun e w' => e = .returned (.int .i64 (f t)) ∧ Ext W w') :
    Calls Try.prog 69 #[.slice (some ⟨b, o, none⟩) n c, .func (.func 68) #[] #[.pointer (some ⟨gb, 0, none⟩)]] w fun e w' => ∃ g c' more, e = .returned (.slice (some ⟨g, 0, none⟩) n c') ∧ Blk w' g 32 (sc (ps.map (mv f)) ++ more).toArray ∧ w.heap.size ≤ g ∧ Ext w w' := by
  have HC := Lib.hid (cloneS b o n c ps w hp n1 n2 hM)
  have HP := Lib.hid hp
  have HKX := Lib.hid HK
  have HTX := Lib.hid HT
  have HFX := Lib.hid HF
  have HALL := Lib.hid (mvUp_all f ps)
  have HSUC := Lib.hid (mvUp_succ f ps)
  have HSAM := Lib.hid (mvUp_same f ps)
  have HLEN := Lib.hid (mvUp_len f ps)
  have HGET := Lib.hid (mvUp_get f ps)
  have HZER := Lib.hid (mvUp_zero f ps)
  clear hp hM HK HT HF
  go_enter Try.func69, Try.ntmps69
  go_wp2_with fail
  refine (HC.out).mono ?_
  rintro e w1 ⟨g, c', more, rfl, hb1, hg, hx1⟩
  have HB1 := Lib.hid hb1
  clear hb1 HC
  go_wp2_with fail
  go_loopw [12] (fun it W => ∃ k : Nat, k ≤ n ∧ it = .int .i64 k ∧ Ext w W ∧ Blk W g 32 (sc (mvUp f ps k) ++ more).toArray) (fun it _ => n - (intOf it).toNat)
  case atStart => exact ⟨0, Nat.zero_le _, rfl, hx1, by rw [HZER.out]; exact HB1.out⟩
  case round =>
    clear hx1 HB1
    obtain ⟨k, hk, rfl, hy, hB⟩ := hrel
    by_cases hlt : k < n
    · have hkp : k < ps.length := by rw [HP.out]; exact hlt
      have hkq : k < (mvUp f ps k).length := by rw [HLEN.out]; exact hkp
      obtain ⟨ka, km, hK⟩ := HKX.out k hlt
      have hcl := kind_cls hK
      have hT := fun t => HTX.out k hlt t
      have hqk : (mvUp f ps k)[k] = ps.getD k zeroS := by
        have := HGET.out k k hkp
        rw [if_neg (by omega)] at this
        rw [← this]
        simp [List.getD_eq_getElem?_getD, hkq]
      have hsu := HSUC.out k hkp
      have hsa := HSAM.out k hkp
      have OA := Lib.hid (fun W' => asks_any hK W')
      have k1 : (0 : Int) ≤ k := by omega
      have k2 : (k : Int) < n := by omega
      have k3 : (k : Int) ≤ 131072 := by omega
      generalize hq : mvUp f ps k = qs at *
      generalize hq2 : mvUp f ps (k + 1) = qs2 at *
      have HQ2 := Lib.hid hq2
      generalize ps.getD k zeroS = s at *
      obtain ⟨co, kk, th, el⟩ := s
      obtain ⟨q0, q1, q2, q3⟩ := blk_sym hB hkq hqk
      unfold Sy.val Sy.cells at OA
      dsimp only at *
      have bs := Blk.new wr 32 #[.int .u16 co, .int .u32 kk, .int .i64 th, .int .i64 el]
      have hE0 := hy.alloc (.cells #[.int .u16 co, .int .u32 kk, .int .i64 th, .int .i64 el] 32)
      have hB0 := hB.alloc (.cells #[.int .u16 co, .int .u32 kk, .int .i64 th, .int .i64 el] 32)
      have hne : wr.heap.size ≠ g := by have := hB.lt; omega
      have s0 := (bs).cell 0
      have s1 := (bs).cell 1
      have s2 := (bs).cell 2
      have s3 := (bs).cell 3
      have OF := Lib.hid (fun W' => of_any co W')
      clear hq hq2 hB hy hkp
      by_cases h5 : co = 5
      · subst h5
        have e1 : (byE 5).1.cls = 4 := by kernel_rfl
        have e2 : asksC 5 = false := rfl
        rw [e1] at OF
        rw [e2] at OA
        have hPT := Lib.hid (hT th (ja_tgt rfl))
        have hs2 := Lib.hid (show qs.set k ⟨5, kk, f th, el⟩ = qs2 from by rw [mv_ja f rfl] at hsu; exact hsu)
        clear hK hcl hT hsu hsa e1 e2
        go_wp2_with fail
        refine (OF.out _).mono ?_
        rintro e w9 ⟨rfl, hx9⟩
        have bs9 := bs.ext hx9
        have s0 := (bs9).cell 0
        have s1 := (bs9).cell 1
        have s2 := (bs9).cell 2
        have s3 := (bs9).cell 3
        go_wp2_with fail
        refine (HFX.out w9 th (hE0.trans hx9) hPT.out).mono ?_
        rintro e w10 ⟨rfl, hx10⟩
        have hB10 := hB0.ext (hx9.trans hx10)
        have hB11 := blk_th hB10 hkq hqk (f th)
        have hE11 := (hE0.trans (hx9.trans hx10)).set (p := ⟨g, k * 4 + 2, none⟩) hg (.int .i64 (f th))
        have bs11 := (bs9.ext hx10).far (p := ⟨g, k * 4 + 2, none⟩) hne (.int .i64 (f th))
        have c10 := (blk_sym hB10 hkq hqk).2.2.1
        have f10 := hB10.frozen (k * 4 + 2)
        clear s0 s1 s2 s3
        have s0 := (bs11).cell 0
        have s1 := (bs11).cell 1
        have s2 := (bs11).cell 2
        have s3 := (bs11).cell 3
        have BS11 := Lib.hid bs11
        have B11 := Lib.hid hB11
        have E11 := Lib.hid hE11
        clear hB10 hB11 hE11 bs11 bs9 hx10 hx9
        go_wp2_with fail
        clear c10 f10
        refine (OA.out _).mono ?_
        rintro e w12 ⟨rfl, hx12⟩
        have bs12 := BS11.out.ext hx12
        clear s0 s1 s2 s3
        have s0 := (bs12).cell 0
        have s1 := (bs12).cell 1
        have s2 := (bs12).cell 2
        have s3 := (bs12).cell 3
        go_wp2_with fail
        go_roundw
        case rel => exact ⟨k + 1, by omega, by go_num, E11.out.trans hx12, by rw [HQ2.out, ← hs2.out]; exact B11.out.ext hx12⟩
        case measure => simp [intOf]; omega
      · by_cases hA : asksC co = true
        · have hq := asks_code.1 hA
          have e1 : (byE co).1.cls = 4 := by rw [hcl, if_neg (by omega), if_neg (by omega), if_neg (by omega)]
          rw [e1] at OF
          rw [hA] at OA
          have hPT := Lib.hid (hT th (as_tgt (s := ⟨co, kk, th, el⟩) hA).1)
          have hPE := Lib.hid (hT el (as_tgt (s := ⟨co, kk, th, el⟩) hA).2)
          have hs2 := Lib.hid (show qs.set k ⟨co, kk, f th, f el⟩ = qs2 from by rw [mv_asks (s := ⟨co, kk, th, el⟩) f hA] at hsu; exact hsu)
          clear hK hcl hT hsu hsa e1 h5 hA hq
          go_wp2_with fail
          refine (OF.out _).mono ?_
          rintro e w9 ⟨rfl, hx9⟩
          have bs9 := bs.ext hx9
          have s0 := (bs9).cell 0
          have s1 := (bs9).cell 1
          have s2 := (bs9).cell 2
          have s3 := (bs9).cell 3
          go_wp2_with fail
          refine (HFX.out w9 th (hE0.trans hx9) hPT.out).mono ?_
          rintro e w10 ⟨rfl, hx10⟩
          have hB10 := hB0.ext (hx9.trans hx10)
          have hB11 := blk_th hB10 hkq hqk (f th)
          have hE11 := (hE0.trans (hx9.trans hx10)).set (p := ⟨g, k * 4 + 2, none⟩) hg (.int .i64 (f th))
          have bs11 := (bs9.ext hx10).far (p := ⟨g, k * 4 + 2, none⟩) hne (.int .i64 (f th))
          have c10 := (blk_sym hB10 hkq hqk).2.2.1
          have f10 := hB10.frozen (k * 4 + 2)
          clear s0 s1 s2 s3
          have s0 := (bs11).cell 0
          have s1 := (bs11).cell 1
          have s2 := (bs11).cell 2
          have s3 := (bs11).cell 3
          have BS11 := Lib.hid bs11
          have B11 := Lib.hid hB11
          have E11 := Lib.hid hE11
          clear hB10 hB11 hE11 bs11 bs9 hx10 hx9
          go_wp2_with fail
          clear c10 f10
          refine (OA.out _).mono ?_
          rintro e w12 ⟨rfl, hx12⟩
          have bs12 := BS11.out.ext hx12
          clear s0 s1 s2 s3
          have s0 := (bs12).cell 0
          have s1 := (bs12).cell 1
          have s2 := (bs12).cell 2
          have s3 := (bs12).cell 3
          go_wp2_with fail
          have hE12 := E11.out.trans hx12
          refine (HFX.out w12 el hE12 hPE.out).mono ?_
          rintro e w13 ⟨rfl, hx13⟩
          have hB13 := B11.out.ext (hx12.trans hx13)
          have hkq2 : k < (qs.set k ⟨co, kk, f th, el⟩).length := by rw [List.length_set]; exact hkq
          have hqk2 : (qs.set k ⟨co, kk, f th, el⟩)[k] = ⟨co, kk, f th, el⟩ := List.getElem_set_self ..
          have hB14 := blk_el hB13 hkq2 hqk2 (f el)
          have hE14 := (hE12.trans hx13).set (p := ⟨g, k * 4 + 3, none⟩) hg (.int .i64 (f el))
          have c13 := (blk_sym hB13 hkq2 hqk2).2.2.2
          have f13 := hB13.frozen (k * 4 + 3)
          rw [List.set_set, hs2.out] at hB14
          have B14 := Lib.hid hB14
          have E14 := Lib.hid hE14
          clear hB13 hB14 hE14 hqk2 hE12
          go_wp2_with fail
          go_roundw
          case rel => exact ⟨k + 1, by omega, by go_num, E14.out, by rw [HQ2.out]; exact B14.out⟩
          case measure => simp [intOf]; omega
        · have hno : co = 32 ∨ co = 84 ∨ co = 6 := by
            rcases hK with ⟨q, _, _, _⟩ | ⟨q, _, _⟩ | ⟨q, _, _⟩ | ⟨q, _, _, q1⟩ | ⟨q, q1, q2⟩
            · exact .inl q
            · exact .inr (.inl q)
            · exact .inr (.inr q)
            · exact absurd q h5
            · exact absurd (asks_code.2 q) hA
          obtain ⟨q, hq, hq4⟩ : ∃ q : Int, (byE co).1.cls = q ∧ (q == 4) = false := by
            rcases hno with h | h | h
            · exact ⟨1, by rw [h]; kernel_rfl, rfl⟩
            · exact ⟨3, by rw [h]; kernel_rfl, rfl⟩
            · exact ⟨5, by rw [h]; kernel_rfl, rfl⟩
          have hA' : asksC co = false := by simpa using hA
          rw [hq] at OF
          rw [hA'] at OA
          have hs2 := Lib.hid (hsa (mv_none (s := ⟨co, kk, th, el⟩) f hno))
          clear hK hcl hT hsu hsa h5 hA hA' hno hq
          go_wp2_with fail
          refine (OF.out _).mono ?_
          rintro e w9 ⟨rfl, hx9⟩
          have bs9 := bs.ext hx9
          clear s0 s1 s2 s3
          have s0 := (bs9).cell 0
          have s1 := (bs9).cell 1
          have s2 := (bs9).cell 2
          have s3 := (bs9).cell 3
          go_wp2_with fail
          refine (OA.out _).mono ?_
          rintro e w12 ⟨rfl, hx12⟩
          go_wp2_with fail
          go_roundw
          case rel => exact ⟨k + 1, by omega, by go_num, hE0.trans (hx9.trans hx12), by rw [HQ2.out, hs2.out]; exact hB0.ext (hx9.trans hx12)⟩
          case measure => simp [intOf]; omega
    · obtain rfl : k = n := by omega
      have HB := Lib.hid hB
      clear hB
      go_wp2_with fail
      go_ret
      exact ⟨g, c', more, rfl, by rw [← HALL.out, HP.out]; exact HB.out, hg, hy⟩
set_option maxHeartbeats 4000000 in
set_option maxRecDepth 100000 in
theorem movedL (gb : Nat) (f : Int → Int) (P : Int → Prop) (b o n c : Nat) (ps : List Sy) (w : World) (hp : ps.length = n) (n1 : 1 ≤ n) (n2 : n ≤ 131072) (hM : InM w (some ⟨b, o, none⟩) (sc ps))
    (HK : ∀ i, i < n → ∃ a m, Kind (ps.getD i zeroS) a m) (HT : ∀ i, i < n → ∀ t, Tgt (ps.getD i zeroS) t → P t)
    (HF : ∀ W t, Ext w W → P t → Calls Try.prog 71 #[.int .i64 t, .pointer (some ⟨gb, 0, none⟩)] W fun e w' => e = .returned (.int .i64 (f t)) ∧ Ext W w') :
    Calls Try.prog 69 #[.slice (some ⟨b, o, none⟩) n c, .func (.func 71) #[] #[.pointer (some ⟨gb, 0, none⟩)]] w fun e w' => ∃ g c' more, e = .returned (.slice (some ⟨g, 0, none⟩) n c') ∧ Blk w' g 32 (sc (ps.map (mv f)) ++ more).toArray ∧ w.heap.size ≤ g ∧ Ext w w' := by
  have HC := Lib.hid (cloneS b o n c ps w hp n1 n2 hM)
  have HP := Lib.hid hp
  have HKX := Lib.hid HK
  have HTX := Lib.hid HT
  have HFX := Lib.hid HF
  have HALL := Lib.hid (mvUp_all f ps)
  have HSUC := Lib.hid (mvUp_succ f ps)
  have HSAM := Lib.hid (mvUp_same f ps)
  have HLEN := Lib.hid (mvUp_len f ps)
  have HGET := Lib.hid (mvUp_get f ps)
  have HZER := Lib.hid (mvUp_zero f ps)
  clear hp hM HK HT HF
  go_enter Try.func69, Try.ntmps69
  go_wp2_with fail
  refine (HC.out).mono ?_
  rintro e w1 ⟨g, c', more, rfl, hb1, hg, hx1⟩
  have HB1 := Lib.hid hb1
  clear hb1 HC
  go_wp2_with fail
  go_loopw [12] (fun it W => ∃ k : Nat, k ≤ n ∧ it = .int .i64 k ∧ Ext w W ∧ Blk W g 32 (sc (mvUp f ps k) ++ more).toArray) (fun it _ => n - (intOf it).toNat)
  case atStart => exact ⟨0, Nat.zero_le _, rfl, hx1, by rw [HZER.out]; exact HB1.out⟩
  case round =>
    clear hx1 HB1
    obtain ⟨k, hk, rfl, hy, hB⟩ := hrel
    by_cases hlt : k < n
    · have hkp : k < ps.length := by rw [HP.out]; exact hlt
      have hkq : k < (mvUp f ps k).length := by rw [HLEN.out]; exact hkp
      obtain ⟨ka, km, hK⟩ := HKX.out k hlt
      have hcl := kind_cls hK
      have hT := fun t => HTX.out k hlt t
      have hqk : (mvUp f ps k)[k] = ps.getD k zeroS := by
        have := HGET.out k k hkp
        rw [if_neg (by omega)] at this
        rw [← this]
        simp [List.getD_eq_getElem?_getD, hkq]
      have hsu := HSUC.out k hkp
      have hsa := HSAM.out k hkp
      have OA := Lib.hid (fun W' => asks_any hK W')
      have k1 : (0 : Int) ≤ k := by omega
      have k2 : (k : Int) < n := by omega
      have k3 : (k : Int) ≤ 131072 := by omega
      generalize hq : mvUp f ps k = qs at *
      generalize hq2 : mvUp f ps (k + 1) = qs2 at *
      have HQ2 := Lib.hid hq2
      generalize ps.getD k zeroS = s at *
      obtain ⟨co, kk, th, el⟩ := s
      obtain ⟨q0, q1, q2, q3⟩ := blk_sym hB hkq hqk
      unfold Sy.val Sy.cells at OA
      dsimp only at *
      have bs := Blk.new wr 32 #[.int .u16 co, .int .u32 kk, .int .i64 th, .int .i64 el]
      have hE0 := hy.alloc (.cells #[.int .u16 co, .int .u32 kk, .int .i64 th, .int .i64 el] 32)
      have hB0 := hB.alloc (.cells #[.int .u16 co, .int .u32 kk, .int .i64 th, .int .i64 el] 32)
      have hne : wr.heap.size ≠ g := by have := hB.lt; omega
      have s0 := (bs).cell 0
      have s1 := (bs).cell 1
      have s2 := (bs).cell 2
      have s3 := (bs).cell 3
      have OF := Lib.hid (fun W' => of_any co W')
      clear hq hq2 hB hy hkp
      by_cases h5 : co = 5
      · subst h5
        have e1 : (byE 5).1.cls = 4 := by kernel_rfl
        have e2 : asksC 5 = false := rfl
        rw [e1] at OF
        rw [e2] at OA
        have hPT := Lib.hid (hT th (ja_tgt rfl))
        have hs2 := Lib.hid (show qs.set k ⟨5, kk, f th, el⟩ = qs2 from by rw [mv_ja f rfl] at hsu; exact hsu)
        clear hK hcl hT hsu hsa e1 e2
        go_wp2_with fail
        refine (OF.out _).mono ?_
        rintro e w9 ⟨rfl, hx9⟩
        have bs9 := bs.ext hx9
        have s0 := (bs9).cell 0
        have s1 := (bs9).cell 1
        have s2 := (bs9).cell 2
        have s3 := (bs9).cell 3
        go_wp2_with fail
        refine (HFX.out w9 th (hE0.trans hx9) hPT.out).mono ?_
        rintro e w10 ⟨rfl, hx10⟩
        have hB10 := hB0.ext (hx9.trans hx10)
        have hB11 := blk_th hB10 hkq hqk (f th)
        have hE11 := (hE0.trans (hx9.trans hx10)).set (p := ⟨g, k * 4 + 2, none⟩) hg (.int .i64 (f th))
        have bs11 := (bs9.ext hx10).far (p := ⟨g, k * 4 + 2, none⟩) hne (.int .i64 (f th))
        have c10 := (blk_sym hB10 hkq hqk).2.2.1
        have f10 := hB10.frozen (k * 4 + 2)
        clear s0 s1 s2 s3
        have s0 := (bs11).cell 0
        have s1 := (bs11).cell 1
        have s2 := (bs11).cell 2
        have s3 := (bs11).cell 3
        have BS11 := Lib.hid bs11
        have B11 := Lib.hid hB11
        have E11 := Lib.hid hE11
        clear hB10 hB11 hE11 bs11 bs9 hx10 hx9
        go_wp2_with fail
        clear c10 f10
        refine (OA.out _).mono ?_
        rintro e w12 ⟨rfl, hx12⟩
        have bs12 := BS11.out.ext hx12
        clear s0 s1 s2 s3
        have s0 := (bs12).cell 0
        have s1 := (bs12).cell 1
        have s2 := (bs12).cell 2
        have s3 := (bs12).cell 3
        go_wp2_with fail
        go_roundw
        case rel => exact ⟨k + 1, by omega, by go_num, E11.out.trans hx12, by rw [HQ2.out, ← hs2.out]; exact B11.out.ext hx12⟩
        case measure => simp [intOf]; omega
      · by_cases hA : asksC co = true
        · have hq := asks_code.1 hA
          have e1 : (byE co).1.cls = 4 := by rw [hcl, if_neg (by omega), if_neg (by omega), if_neg (by omega)]
          rw [e1] at OF
          rw [hA] at OA
          have hPT := Lib.hid (hT th (as_tgt (s := ⟨co, kk, th, el⟩) hA).1)
          have hPE := Lib.hid (hT el (as_tgt (s := ⟨co, kk, th, el⟩) hA).2)
          have hs2 := Lib.hid (show qs.set k ⟨co, kk, f th, f el⟩ = qs2 from by rw [mv_asks (s := ⟨co, kk, th, el⟩) f hA] at hsu; exact hsu)
          clear hK hcl hT hsu hsa e1 h5 hA hq
          go_wp2_with fail
          refine (OF.out _).mono ?_
          rintro e w9 ⟨rfl, hx9⟩
          have bs9 := bs.ext hx9
          have s0 := (bs9).cell 0
          have s1 := (bs9).cell 1
          have s2 := (bs9).cell 2
          have s3 := (bs9).cell 3
          go_wp2_with fail
          refine (HFX.out w9 th (hE0.trans hx9) hPT.out).mono ?_
          rintro e w10 ⟨rfl, hx10⟩
          have hB10 := hB0.ext (hx9.trans hx10)
          have hB11 := blk_th hB10 hkq hqk (f th)
          have hE11 := (hE0.trans (hx9.trans hx10)).set (p := ⟨g, k * 4 + 2, none⟩) hg (.int .i64 (f th))
          have bs11 := (bs9.ext hx10).far (p := ⟨g, k * 4 + 2, none⟩) hne (.int .i64 (f th))
          have c10 := (blk_sym hB10 hkq hqk).2.2.1
          have f10 := hB10.frozen (k * 4 + 2)
          clear s0 s1 s2 s3
          have s0 := (bs11).cell 0
          have s1 := (bs11).cell 1
          have s2 := (bs11).cell 2
          have s3 := (bs11).cell 3
          have BS11 := Lib.hid bs11
          have B11 := Lib.hid hB11
          have E11 := Lib.hid hE11
          clear hB10 hB11 hE11 bs11 bs9 hx10 hx9
          go_wp2_with fail
          clear c10 f10
          refine (OA.out _).mono ?_
          rintro e w12 ⟨rfl, hx12⟩
          have bs12 := BS11.out.ext hx12
          clear s0 s1 s2 s3
          have s0 := (bs12).cell 0
          have s1 := (bs12).cell 1
          have s2 := (bs12).cell 2
          have s3 := (bs12).cell 3
          go_wp2_with fail
          have hE12 := E11.out.trans hx12
          refine (HFX.out w12 el hE12 hPE.out).mono ?_
          rintro e w13 ⟨rfl, hx13⟩
          have hB13 := B11.out.ext (hx12.trans hx13)
          have hkq2 : k < (qs.set k ⟨co, kk, f th, el⟩).length := by rw [List.length_set]; exact hkq
          have hqk2 : (qs.set k ⟨co, kk, f th, el⟩)[k] = ⟨co, kk, f th, el⟩ := List.getElem_set_self ..
          have hB14 := blk_el hB13 hkq2 hqk2 (f el)
          have hE14 := (hE12.trans hx13).set (p := ⟨g, k * 4 + 3, none⟩) hg (.int .i64 (f el))
          have c13 := (blk_sym hB13 hkq2 hqk2).2.2.2
          have f13 := hB13.frozen (k * 4 + 3)
          rw [List.set_set, hs2.out] at hB14
          have B14 := Lib.hid hB14
          have E14 := Lib.hid hE14
          clear hB13 hB14 hE14 hqk2 hE12
          go_wp2_with fail
          go_roundw
          case rel => exact ⟨k + 1, by omega, by go_num, E14.out, by rw [HQ2.out]; exact B14.out⟩
          case measure => simp [intOf]; omega
        · have hno : co = 32 ∨ co = 84 ∨ co = 6 := by
            rcases hK with ⟨q, _, _, _⟩ | ⟨q, _, _⟩ | ⟨q, _, _⟩ | ⟨q, _, _, q1⟩ | ⟨q, q1, q2⟩
            · exact .inl q
            · exact .inr (.inl q)
            · exact .inr (.inr q)
            · exact absurd q h5
            · exact absurd (asks_code.2 q) hA
          obtain ⟨q, hq, hq4⟩ : ∃ q : Int, (byE co).1.cls = q ∧ (q == 4) = false := by
            rcases hno with h | h | h
            · exact ⟨1, by rw [h]; kernel_rfl, rfl⟩
            · exact ⟨3, by rw [h]; kernel_rfl, rfl⟩
            · exact ⟨5, by rw [h]; kernel_rfl, rfl⟩
          have hA' : asksC co = false := by simpa using hA
          rw [hq] at OF
          rw [hA'] at OA
          have hs2 := Lib.hid (hsa (mv_none (s := ⟨co, kk, th, el⟩) f hno))
          clear hK hcl hT hsu hsa h5 hA hA' hno hq
          go_wp2_with fail
          refine (OF.out _).mono ?_
          rintro e w9 ⟨rfl, hx9⟩
          have bs9 := bs.ext hx9
          clear s0 s1 s2 s3
          have s0 := (bs9).cell 0
          have s1 := (bs9).cell 1
          have s2 := (bs9).cell 2
          have s3 := (bs9).cell 3
          go_wp2_with fail
          refine (OA.out _).mono ?_
          rintro e w12 ⟨rfl, hx12⟩
          go_wp2_with fail
          go_roundw
          case rel => exact ⟨k + 1, by omega, by go_num, hE0.trans (hx9.trans hx12), by rw [HQ2.out, hs2.out]; exact hB0.ext (hx9.trans hx12)⟩
          case measure => simp [intOf]; omega
    · obtain rfl : k = n := by omega
      have HB := Lib.hid hB
      clear hB
      go_wp2_with fail
      go_ret
      exact ⟨g, c', more, rfl, by rw [← HALL.out, HP.out]; exact HB.out, hg, hy⟩
set_option maxHeartbeats 4000000 in
set_option maxRecDepth 100000 in
theorem movedS (ga gb : Nat) (f : Int → Int) (P : Int → Prop) (b o n c : Nat) (ps : List Sy) (w : World) (hp : ps.length = n) (n1 : 1 ≤ n) (n2 : n ≤ 131072) (hM : InM w (some ⟨b, o, none⟩) (sc ps))
    (HK : ∀ i, i < n → ∃ a m, Kind (ps.getD i zeroS) a m) (HT : ∀ i, i < n → ∀ t, Tgt (ps.getD i zeroS) t → P t)
    (HF : ∀ W t, Ext w W → P t → Calls Try.prog 70 #[.int .i64 t, .pointer (some ⟨ga, 0, none⟩), .pointer (some ⟨gb, 0, none⟩)] W fun e w' => e = .returned (.int .i64 (f t)) ∧ Ext W w') :
    Calls Try.prog 69 #[.slice (some ⟨b, o, none⟩) n c, .func (.func 70) #[] #[.pointer (some ⟨ga, 0, none⟩), .pointer (some ⟨gb, 0, none⟩)]] w fun e w' => ∃ g c' more, e = .returned (.slice (some ⟨g, 0, none⟩) n c') ∧ Blk w' g 32 (sc (ps.map (mv f)) ++ more).toArray ∧ w.heap.size ≤ g ∧ Ext w w' := by
  have HC := Lib.hid (cloneS b o n c ps w hp n1 n2 hM)
  have HP := Lib.hid hp
  have HKX := Lib.hid HK
  have HTX := Lib.hid HT
  have HFX := Lib.hid HF
  have HALL := Lib.hid (mvUp_all f ps)
  have HSUC := Lib.hid (mvUp_succ f ps)
  have HSAM := Lib.hid (mvUp_same f ps)
  have HLEN := Lib.hid (mvUp_len f ps)
  have HGET := Lib.hid (mvUp_get f ps)
  have HZER := Lib.hid (mvUp_zero f ps)
  clear hp hM HK HT HF
  go_enter Try.func69, Try.ntmps69
  go_wp2_with fail
  refine (HC.out).mono ?_
  rintro e w1 ⟨g, c', more, rfl, hb1, hg, hx1⟩
  have HB1 := Lib.hid hb1
  clear hb1 HC
  go_wp2_with fail
  go_loopw [12] (fun it W => ∃ k : Nat, k ≤ n ∧ it = .int .i64 k ∧ Ext w W ∧ Blk W g 32 (sc (mvUp f ps k) ++ more).toArray) (fun it _ => n - (intOf it).toNat)
  case atStart => exact ⟨0, Nat.zero_le _, rfl, hx1, by rw [HZER.out]; exact HB1.out⟩
  case round =>
    clear hx1 HB1
    obtain ⟨k, hk, rfl, hy, hB⟩ := hrel
    by_cases hlt : k < n
    · have hkp : k < ps.length := by rw [HP.out]; exact hlt
      have hkq : k < (mvUp f ps k).length := by rw [HLEN.out]; exact hkp
      obtain ⟨ka, km, hK⟩ := HKX.out k hlt
      have hcl := kind_cls hK
      have hT := fun t => HTX.out k hlt t
      have hqk : (mvUp f ps k)[k] = ps.getD k zeroS := by
        have := HGET.out k k hkp
        rw [if_neg (by omega)] at this
        rw [← this]
        simp [List.getD_eq_getElem?_getD, hkq]
      have hsu := HSUC.out k hkp
      have hsa := HSAM.out k hkp
      have OA := Lib.hid (fun W' => asks_any hK W')
      have k1 : (0 : Int) ≤ k := by omega
      have k2 : (k : Int) < n := by omega
      have k3 : (k : Int) ≤ 131072 := by omega
      generalize hq : mvUp f ps k = qs at *
      generalize hq2 : mvUp f ps (k + 1) = qs2 at *
      have HQ2 := Lib.hid hq2
      generalize ps.getD k zeroS = s at *
      obtain ⟨co, kk, th, el⟩ := s
      obtain ⟨q0, q1, q2, q3⟩ := blk_sym hB hkq hqk
      unfold Sy.val Sy.cells at OA
      dsimp only at *
      have bs := Blk.new wr 32 #[.int .u16 co, .int .u32 kk, .int .i64 th, .int .i64 el]
      have hE0 := hy.alloc (.cells #[.int .u16 co, .int .u32 kk, .int .i64 th, .int .i64 el] 32)
      have hB0 := hB.alloc (.cells #[.int .u16 co, .int .u32 kk, .int .i64 th, .int .i64 el] 32)
      have hne : wr.heap.size ≠ g := by have := hB.lt; omega
      have s0 := (bs).cell 0
      have s1 := (bs).cell 1
      have s2 := (bs).cell 2
      have s3 := (bs).cell 3
      have OF := Lib.hid (fun W' => of_any co W')
      clear hq hq2 hB hy hkp
      by_cases h5 : co = 5
      · subst h5
        have e1 : (byE 5).1.cls = 4 := by kernel_rfl
        have e2 : asksC 5 = false := rfl
        rw [e1] at OF
        rw [e2] at OA
        have hPT := Lib.hid (hT th (ja_tgt rfl))
        have hs2 := Lib.hid (show qs.set k ⟨5, kk, f th, el⟩ = qs2 from by rw [mv_ja f rfl] at hsu; exact hsu)
        clear hK hcl hT hsu hsa e1 e2
        go_wp2_with fail
        refine (OF.out _).mono ?_
        rintro e w9 ⟨rfl, hx9⟩
        have bs9 := bs.ext hx9
        have s0 := (bs9).cell 0
        have s1 := (bs9).cell 1
        have s2 := (bs9).cell 2
        have s3 := (bs9).cell 3
        go_wp2_with fail
        refine (HFX.out w9 th (hE0.trans hx9) hPT.out).mono ?_
        rintro e w10 ⟨rfl, hx10⟩
        have hB10 := hB0.ext (hx9.trans hx10)
        have hB11 := blk_th hB10 hkq hqk (f th)
        have hE11 := (hE0.trans (hx9.trans hx10)).set (p := ⟨g, k * 4 + 2, none⟩) hg (.int .i64 (f th))
        have bs11 := (bs9.ext hx10).far (p := ⟨g, k * 4 + 2, none⟩) hne (.int .i64 (f th))
        have c10 := (blk_sym hB10 hkq hqk).2.2.1
        have f10 := hB10.frozen (k * 4 + 2)
        clear s0 s1 s2 s3
        have s0 := (bs11).cell 0
        have s1 := (bs11).cell 1
        have s2 := (bs11).cell 2
        have s3 := (bs11).cell 3
        have BS11 := Lib.hid bs11
        have B11 := Lib.hid hB11
        have E11 := Lib.hid hE11
        clear hB10 hB11 hE11 bs11 bs9 hx10 hx9
        go_wp2_with fail
        clear c10 f10
        refine (OA.out _).mono ?_
        rintro e w12 ⟨rfl, hx12⟩
        have bs12 := BS11.out.ext hx12
        clear s0 s1 s2 s3
        have s0 := (bs12).cell 0
        have s1 := (bs12).cell 1
        have s2 := (bs12).cell 2
        have s3 := (bs12).cell 3
        go_wp2_with fail
        go_roundw
        case rel => exact ⟨k + 1, by omega, by go_num, E11.out.trans hx12, by rw [HQ2.out, ← hs2.out]; exact B11.out.ext hx12⟩
        case measure => simp [intOf]; omega
      · by_cases hA : asksC co = true
        · have hq := asks_code.1 hA
          have e1 : (byE co).1.cls = 4 := by rw [hcl, if_neg (by omega), if_neg (by omega), if_neg (by omega)]
          rw [e1] at OF
          rw [hA] at OA
          have hPT := Lib.hid (hT th (as_tgt (s := ⟨co, kk, th, el⟩) hA).1)
          have hPE := Lib.hid (hT el (as_tgt (s := ⟨co, kk, th, el⟩) hA).2)
          have hs2 := Lib.hid (show qs.set k ⟨co, kk, f th, f el⟩ = qs2 from by rw [mv_asks (s := ⟨co, kk, th, el⟩) f hA] at hsu; exact hsu)
          clear hK hcl hT hsu hsa e1 h5 hA hq
          go_wp2_with fail
          refine (OF.out _).mono ?_
          rintro e w9 ⟨rfl, hx9⟩
          have bs9 := bs.ext hx9
          have s0 := (bs9).cell 0
          have s1 := (bs9).cell 1
          have s2 := (bs9).cell 2
          have s3 := (bs9).cell 3
          go_wp2_with fail
          refine (HFX.out w9 th (hE0.trans hx9) hPT.out).mono ?_
          rintro e w10 ⟨rfl, hx10⟩
          have hB10 := hB0.ext (hx9.trans hx10)
          have hB11 := blk_th hB10 hkq hqk (f th)
          have hE11 := (hE0.trans (hx9.trans hx10)).set (p := ⟨g, k * 4 + 2, none⟩) hg (.int .i64 (f th))
          have bs11 := (bs9.ext hx10).far (p := ⟨g, k * 4 + 2, none⟩) hne (.int .i64 (f th))
          have c10 := (blk_sym hB10 hkq hqk).2.2.1
          have f10 := hB10.frozen (k * 4 + 2)
          clear s0 s1 s2 s3
          have s0 := (bs11).cell 0
          have s1 := (bs11).cell 1
          have s2 := (bs11).cell 2
          have s3 := (bs11).cell 3
          have BS11 := Lib.hid bs11
          have B11 := Lib.hid hB11
          have E11 := Lib.hid hE11
          clear hB10 hB11 hE11 bs11 bs9 hx10 hx9
          go_wp2_with fail
          clear c10 f10
          refine (OA.out _).mono ?_
          rintro e w12 ⟨rfl, hx12⟩
          have bs12 := BS11.out.ext hx12
          clear s0 s1 s2 s3
          have s0 := (bs12).cell 0
          have s1 := (bs12).cell 1
          have s2 := (bs12).cell 2
          have s3 := (bs12).cell 3
          go_wp2_with fail
          have hE12 := E11.out.trans hx12
          refine (HFX.out w12 el hE12 hPE.out).mono ?_
          rintro e w13 ⟨rfl, hx13⟩
          have hB13 := B11.out.ext (hx12.trans hx13)
          have hkq2 : k < (qs.set k ⟨co, kk, f th, el⟩).length := by rw [List.length_set]; exact hkq
          have hqk2 : (qs.set k ⟨co, kk, f th, el⟩)[k] = ⟨co, kk, f th, el⟩ := List.getElem_set_self ..
          have hB14 := blk_el hB13 hkq2 hqk2 (f el)
          have hE14 := (hE12.trans hx13).set (p := ⟨g, k * 4 + 3, none⟩) hg (.int .i64 (f el))
          have c13 := (blk_sym hB13 hkq2 hqk2).2.2.2
          have f13 := hB13.frozen (k * 4 + 3)
          rw [List.set_set, hs2.out] at hB14
          have B14 := Lib.hid hB14
          have E14 := Lib.hid hE14
          clear hB13 hB14 hE14 hqk2 hE12
          go_wp2_with fail
          go_roundw
          case rel => exact ⟨k + 1, by omega, by go_num, E14.out, by rw [HQ2.out]; exact B14.out⟩
          case measure => simp [intOf]; omega
        · have hno : co = 32 ∨ co = 84 ∨ co = 6 := by
            rcases hK with ⟨q, _, _, _⟩ | ⟨q, _, _⟩ | ⟨q, _, _⟩ | ⟨q, _, _, q1⟩ | ⟨q, q1, q2⟩
            · exact .inl q
            · exact .inr (.inl q)
            · exact .inr (.inr q)
            · exact absurd q h5
            · exact absurd (asks_code.2 q) hA
          obtain ⟨q, hq, hq4⟩ : ∃ q : Int, (byE co).1.cls = q ∧ (q == 4) = false := by
            rcases hno with h | h | h
            · exact ⟨1, by rw [h]; kernel_rfl, rfl⟩
            · exact ⟨3, by rw [h]; kernel_rfl, rfl⟩
            · exact ⟨5, by rw [h]; kernel_rfl, rfl⟩
          have hA' : asksC co = false := by simpa using hA
          rw [hq] at OF
          rw [hA'] at OA
          have hs2 := Lib.hid (hsa (mv_none (s := ⟨co, kk, th, el⟩) f hno))
          clear hK hcl hT hsu hsa h5 hA hA' hno hq
          go_wp2_with fail
          refine (OF.out _).mono ?_
          rintro e w9 ⟨rfl, hx9⟩
          have bs9 := bs.ext hx9
          clear s0 s1 s2 s3
          have s0 := (bs9).cell 0
          have s1 := (bs9).cell 1
          have s2 := (bs9).cell 2
          have s3 := (bs9).cell 3
          go_wp2_with fail
          refine (OA.out _).mono ?_
          rintro e w12 ⟨rfl, hx12⟩
          go_wp2_with fail
          go_roundw
          case rel => exact ⟨k + 1, by omega, by go_num, hE0.trans (hx9.trans hx12), by rw [HQ2.out, hs2.out]; exact hB0.ext (hx9.trans hx12)⟩
          case measure => simp [intOf]; omega
    · obtain rfl : k = n := by omega
      have HB := Lib.hid hB
      clear hB
      go_wp2_with fail
      go_ret
      exact ⟨g, c', more, rfl, by rw [← HALL.out, HP.out]; exact HB.out, hg, hy⟩
end Go.Proofs.Ytjlhfmedaandeaa
