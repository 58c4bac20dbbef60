import Derived.Test.YtjlhfmedaandeaaCelB
/- cells.walk. -/
namespace Go.Proofs.Ytjlhfmedaandeaa
open Go.RowKit Go.ChangeShapes Go.WideShapes
set_option linter.unusedVariables false
set_option linter.unusedSimpArgs false
attribute [local go_sem] Oper.semAt_some

set_option maxHeartbeats 4000000 in
set_option maxRecDepth 100000 in
theorem walkT (A : Option Addr) (n c : Nat) (ps : List Ins) (hp : ps.length = n) (hn : n ≤ 4096) (hok : ∀ i ∈ ps, i.ok)
    (vf : Nat) (lb : Array Value) (ev : ∀ args w, (callFunc vf args).run Try.prog w = .ok (.enter vf args) w) (OV : World → Nat → Prop) (VI : List (Nat × Int) → World → Prop) (w : World) (hO : Owns OV VI w.heap.size)
    (hV : ∀ k W, k < n → (wupto ps k).2.getD k false = true → VI (visits ps k) W → Calls Try.prog vf (#[.int .i64 k, .int .u16 ((wupto ps k).1.getD k 0)] ++ lb) W fun e W' => (∃ v, e = .returned v) ∧ VI (visits ps k ++ [(k, (wupto ps k).1.getD k 0)]) W' ∧ VK OV W W')
    (hM : InM w A (pc ps)) (hA : 0 < n → ∀ a, A = some a → ¬ OV w a.block) (h0 : VI [] w) :
    CallsIn .wide 3 Try.prog 91 #[.slice A n c, .func (.func vf) #[] lb] w fun e w' => (∃ v, e = .returned v) ∧ VI (visits ps n) w' ∧ VK OV w w' := by
  have d1 : ¬ (4096 : Int) < n := by omega
  have HP := Lib.hid hp
  have hmk1 : ∀ w : World, (Instr.makeSlice 23 (.int .i64 (n : Int)) (.int .i64 (n : Int))).run Try.prog w = .ok (.slice (some ⟨w.heap.size, 0, none⟩) n n) (w.alloc (.cells (bools (List.replicate n false)) 4)) := fun w => by
    rw [← bools_rep]
    exact make_run1 23 4 (.bool false) 1 Try.underlying23 info_bool rfl .i64 .i64 n n (Nat.le_refl _) (by omega) (by decide) w
  have hmk2 : ∀ w : World, (Instr.makeSlice 139 (.int .i64 (n : Int)) (.int .i64 (n : Int))).run Try.prog w = .ok (.slice (some ⟨w.heap.size, 0, none⟩) n n) (w.alloc (.cells (masks (List.replicate n 0)) 29)) := fun w => by
    rw [← masks_rep]
    exact make_run1 139 29 (.int .u16 0) 2 Try.underlying139 info_u16' rfl .i64 .i64 n n (Nat.le_refl _) (by omega) (by decide) w
  clear hp
  refine callsIn_of_wp_marks Try.func91 rfl trivial ?_ rfl
  simp only [Try.ntmps91, List.size_toArray, List.length_cons, List.length_nil, Nat.reduceAdd, Nat.reduceSub, Array.replicate_succ, Array.replicate_zero, List.push_toArray, List.append_toArray, List.nil_append, List.cons_append]
  gi_wp2_with fail
  refine wpIn_mono (Q := fun e a' w' => e = .normal ∧ ∃ gS gR bS bR, a' = { tmps := #[.slice A n c, .func (.func vf) #[] lb, undef, undef, .pointer (some ⟨bS, 0, none⟩), .pointer (some ⟨bR, 0, none⟩), undef, undef, undef, undef, .slice A n c, .int .i64 n, .bool false, .slice A n c, .int .i64 n, .slice (some ⟨gS, 0, none⟩) n n, .slice A n c, .int .i64 n, .slice (some ⟨gR, 0, none⟩) n n, undef, undef, undef, undef, undef, undef, undef, undef, undef, undef, undef, undef, undef, undef, undef, undef, undef, undef, undef, undef, undef, undef, undef, undef, undef, undef, undef, undef, undef, undef, undef, undef, undef, undef, undef, undef, undef, undef, undef, undef, undef], defers := [] } ∧
      Ext w w' ∧ (w.heap.size ≤ gS ∧ w.heap.size ≤ gR ∧ w.heap.size ≤ bS ∧ w.heap.size ≤ bR) ∧ (gS ≠ gR ∧ gS ≠ bS ∧ gS ≠ bR ∧ gR ≠ bS ∧ gR ≠ bR ∧ bS ≠ bR) ∧
      Blk w' gS 29 (masks (List.replicate n 0)) ∧ Blk w' gR 4 (bools (List.replicate n false)) ∧ Blk w' bS 139 #[.slice (some ⟨gS, 0, none⟩) n n] ∧ Blk w' bR 23 #[.slice (some ⟨gR, 0, none⟩) n n]) ?reg ?rest
  case reg =>
    clear hM hA h0 hO hV ev hok HP
    refine wpIn_wide.2 ?_
    go_region
    all_goals
      refine ⟨rfl, _, _, _, _, rfl, (((((Ext.refl w).alloc _).alloc _).alloc _).alloc _).drew, ⟨by omega, by omega, by omega, by omega⟩, ⟨by omega, by omega, by omega, by omega, by omega, by omega⟩, ?_, ?_, ?_, ?_⟩
      all_goals first
        | exact Blk.drew (Blk.new_ (by simp))
        | exact Blk.drew ((Blk.new_ (by simp)).alloc _)
        | exact Blk.drew (((Blk.new_ (by simp)).alloc _).alloc _)
        | exact Blk.drew ((((Blk.new_ (by simp)).alloc _).alloc _).alloc _)
  case rest =>
    rintro e a' w1 ⟨rfl, gS, gR, bS, bR, rfl, hx1, ⟨z1, z2, z3, z4⟩, ⟨y1, y2, y3, y4, y5, y6⟩, B4, B3, B2, B1⟩
    have B5 := Blk.new w1 129 #[.func (.func 104) #[] #[.pointer (some ⟨bR, 0, none⟩), .pointer (some ⟨bS, 0, none⟩)]]
    have hx2 := hx1.alloc (.cells #[.func (.func 104) #[] #[.pointer (some ⟨bR, 0, none⟩), .pointer (some ⟨bS, 0, none⟩)]] 129)
    obtain ⟨hVI0, hOV0⟩ := hO.off h0 (Off.of_ext (B := w.heap.size) hx2)
    have hno : ∀ b, w.heap.size ≤ b → ¬ OV (w1.alloc (.cells #[.func (.func 104) #[] #[.pointer (some ⟨bR, 0, none⟩), .pointer (some ⟨bS, 0, none⟩)]] 129)) b := fun b hb ho => by
      have := hO.lt h0 ((hOV0 b).1 ho)
      omega
    have hWB0 : WB OV n gS gR bS bR w1.heap.size (List.replicate n 0, List.replicate n false) (w1.alloc (.cells #[.func (.func 104) #[] #[.pointer (some ⟨bR, 0, none⟩), .pointer (some ⟨bS, 0, none⟩)]] 129)) :=
      ⟨B1.alloc _, B2.alloc _, B3.alloc _, B4.alloc _, B5, hno _ z4, hno _ z3, hno _ z2, hno _ z1, hno _ hx1.size⟩
    have hVK0 : VK OV w (w1.alloc (.cells #[.func (.func 104) #[] #[.pointer (some ⟨bR, 0, none⟩), .pointer (some ⟨bS, 0, none⟩)]] 129)) :=
      hO.vk h0 (Off.of_ext hx2) ⟨rfl, rfl, rfl, Nat.le_refl _, fun b _ ho => ⟨rfl, ho⟩⟩
    have y7 : w1.heap.size ≠ gS ∧ w1.heap.size ≠ gR := ⟨fun e => by have := B4.lt; omega, fun e => by have := B3.lt; omega⟩
    have hbc := hx1.size
    clear B1 B2 B3 B4 B5 hno hOV0 hmk1 hmk2 h0
    gi_wp2_with fail
    generalize w1.alloc (.cells #[.func (.func 104) #[] #[.pointer (some ⟨bR, 0, none⟩), .pointer (some ⟨bS, 0, none⟩)]] 129) = w2 at *
    generalize w1.heap.size = bc at *
    clear hx1 w1
    refine wpIn_loop (fun a wr => ∃ (ds : List Deferred) (u7 u8 u9 u22 u23 u24 u25 u26 u27 u28 u29 u30 u31 u32 u33 u34 u35 u36 u37 u38 u39 u40 u41 u42 u43 u44 u45 u46 u47 u48 u49 u50 u51 u52 u53 u54 u55 u56 u57 u58 u59 : Value), (∃ k : Nat, k ≤ n ∧ u22 = .int .i64 k ∧ VI (visits ps k) wr ∧ VK OV w wr ∧ WB OV n gS gR bS bR bc (if k = 0 then (List.replicate n 0, List.replicate n false) else wupto ps k) wr ∧ ∃ Ds : List Nat, ds = Ds.map mark ∧ marksAt Ds wr ∧ ∀ D ∈ Ds, w.heap.size ≤ D) ∧ a = { tmps := #[.slice A n c, .func (.func vf) #[] lb, undef, undef, .pointer (some ⟨bS, 0, none⟩), .pointer (some ⟨bR, 0, none⟩), .pointer (some ⟨bc, 0, none⟩), u7, u8, u9, .slice A n c, .int .i64 n, .bool false, .slice A n c, .int .i64 n, .slice (some ⟨gS, 0, none⟩) n n, .slice A n c, .int .i64 n, .slice (some ⟨gR, 0, none⟩) n n, .func (.func 104) #[] #[.pointer (some ⟨bR, 0, none⟩), .pointer (some ⟨bS, 0, none⟩)], .slice A n c, .int .i64 n, u22, u23, u24, u25, u26, u27, u28, u29, u30, u31, u32, u33, u34, u35, u36, u37, u38, u39, u40, u41, u42, u43, u44, u45, u46, u47, u48, u49, u50, u51, u52, u53, u54, u55, u56, u57, u58, u59], defers := ds })
      (fun a _ => n - (intOf (a.tmps.getD 22 undef)).toNat) ?start ?round
    case start =>
      refine ⟨[], ?_⟩
      repeat apply Exists.intro
      exact ⟨⟨0, Nat.zero_le _, rfl, hVI0, hVK0, by rw [if_pos rfl]; exact hWB0, [], rfl, ⟨List.nodup_nil, fun D h => by cases h⟩, fun D h => by cases h⟩, rfl⟩
    case round =>
      clear hVI0 hVK0 hWB0 hx2 w2
      rintro a wr ⟨ds, u7, u8, u9, u22, u23, u24, u25, u26, u27, u28, u29, u30, u31, u32, u33, u34, u35, u36, u37, u38, u39, u40, u41, u42, u43, u44, u45, u46, u47, u48, u49, u50, u51, u52, u53, u54, u55, u56, u57, u58, u59, ⟨k, hk, rfl, hVI, hVK, hWB, Ds, rfl, hDs, hDb⟩, rfl⟩
      by_cases hlt : k < n
      · have hkp : k < ps.length := by rw [HP.out]; exact hlt
        have hMr := hVK.inM hM (by rw [pc_length, HP.out]; intro h a e; exact hA (by omega) a e)
        obtain ⟨b0, o0, rfl, _⟩ := prog_some hMr (by omega)
        obtain ⟨q0, q1, q2, q3⟩ := prog_cells hMr hkp
        have k1 : (0 : Int) ≤ k := by omega
        have k2 : (k : Int) < n := by omega
        have hik := hok _ (List.getElem_mem hkp)
        have HGD : ps.getD k zeroI = ps[k] := by rw [List.getD_eq_getElem?_getD, List.getElem?_eq_getElem hkp]; rfl
        have HNX : nextL ps k = wayL (ps[k]) k n := by
          unfold nextL
          rw [if_neg (by rw [HP.out]; omega), Int.toNat_natCast, HGD, HP.out]
        have HST := wupto_succ ps k
        unfold wstep at HST
        rw [HNX, HGD] at HST
        have HVS := visits_succ ps k
        have HL := wupto_len ps k
        rw [HP.out] at HL
        have HV := Lib.hid (fun W => hV k W hlt)
        have HZ : k = 0 → wupto ps k = (List.replicate n 0, rstart n) := fun e => by subst e; simp [wupto, HP.out]
        have HGDh := Lib.hid HGD
        clear HNX HGD hMr hV hok
        generalize ps[k] = P at *
        generalize hs : wupto ps k = s at *
        generalize hs' : wupto ps (k + 1) = s' at *
        generalize hvs : visits ps k = vs at *
        generalize hvs' : visits ps (k + 1) = vs' at *
        have HH := Lib.hid (And.intro HST (And.intro HVS (And.intro HL (And.intro HZ (And.intro hvs' hs')))))
        clear HST HVS HL HZ hvs hvs' hs hs'
        obtain ⟨co, jt, jf, kk⟩ := P
        dsimp only at q0 q1 q2 q3
        refine wpIn_seq_k fun K4 hK4 => ?_
        have HK4 := Lib.hid hK4; clear hK4
        gi_wp2
        refine HK4.out _ _ ?_
        refine wpIn_seq_k fun K5 hK5 => ?_
        have HK5 := Lib.hid hK5; clear hK5
        gi_wp2
        refine HK5.out _ _ ?_
        clear HK4 HK5
        refine wpIn_seq_k fun K6 hK6 => ?_
        refine wpIn_block ?_
        refine wpIn_seq_k fun K7 hK7 => ?_
        have HK7 := Lib.hid hK7; clear hK7
        gi_wp2
        refine HK7.out _ _ ?_
        clear HK7 q0 q1 q2 q3
        have hxa := ((Ext.refl wr).alloc (.cells #[.int .i64 k] 3)).alloc (.cells #[.int .u16 co, .int .u8 jt, .int .u8 jf, .int .u32 kk] 43)
        have c7 : Blk ((wr.alloc (.cells #[.int .i64 k] 3)).alloc (.cells #[.int .u16 co, .int .u8 jt, .int .u8 jf, .int .u32 kk] 43)) wr.heap.size 3 #[.int .i64 k] := (Blk.new wr _ _).alloc _
        have c8 : Blk ((wr.alloc (.cells #[.int .i64 k] 3)).alloc (.cells #[.int .u16 co, .int .u8 jt, .int .u8 jf, .int .u32 kk] 43)) (wr.heap.size + 1) 43 #[.int .u16 co, .int .u8 jt, .int .u8 jf, .int .u32 kk] := Blk.new_ (by simp)
        obtain ⟨hVIa, hOVa⟩ := hO.off hVI (Off.of_ext (B := w.heap.size) hxa)
        have hVKa := hO.vk hVI (Off.of_ext hxa) hVK
        have hWBa := hWB.ext hxa hOVa
        have hDa : marksAt Ds ((wr.alloc (.cells #[.int .i64 k] 3)).alloc (.cells #[.int .u16 co, .int .u8 jt, .int .u8 jf, .int .u32 kk] 43)) := ⟨hDs.1, fun D hD => (hxa.block (Array.getElem?_eq_some_iff.1 (hDs.2 D hD)).1).trans (hDs.2 D hD)⟩
        have n7 : ¬ OV ((wr.alloc (.cells #[.int .i64 k] 3)).alloc (.cells #[.int .u16 co, .int .u8 jt, .int .u8 jf, .int .u32 kk] 43)) wr.heap.size := fun h => by have := hO.lt hVI ((hOVa _).1 h); omega
        have n8 : ¬ OV ((wr.alloc (.cells #[.int .i64 k] 3)).alloc (.cells #[.int .u16 co, .int .u8 jt, .int .u8 jf, .int .u32 kk] 43)) (wr.heap.size + 1) := fun h => by have := hO.lt hVI ((hOVa _).1 h); omega
        have x1 : gS < wr.heap.size := hWB.b4.lt
        have x2 : gR < wr.heap.size := hWB.b3.lt
        have x3 : w.heap.size ≤ wr.heap.size := hVK.size
        generalize (wr.alloc (.cells #[.int .i64 k] 3)).alloc (.cells #[.int .u16 co, .int .u8 jt, .int .u8 jf, .int .u32 kk] 43) = wa at *
        generalize hg8 : wr.heap.size + 1 = g8 at *
        generalize hg7 : wr.heap.size = g7 at *
        clear hxa hOVa hDs hVI hVK hWB
        refine wpIn_seq ?_
        obtain ⟨QM, hQM⟩ : ∃ QM : Exit → Act → World → Prop, QM = fun e a' W => e = .normal ∧ ∃ u27 u28 u29 u30, a' = { tmps := #[.slice (some ⟨b0, o0, none⟩) n c, .func (.func vf) #[] lb, undef, undef, .pointer (some ⟨bS, 0, none⟩), .pointer (some ⟨bR, 0, none⟩), .pointer (some ⟨bc, 0, none⟩), .pointer (some ⟨g7, 0, none⟩), .pointer (some ⟨g8, 0, none⟩), u9, .slice (some ⟨b0, o0, none⟩) n c, .int .i64 n, .bool false, .slice (some ⟨b0, o0, none⟩) n c, .int .i64 n, .slice (some ⟨gS, 0, none⟩) n n, .slice (some ⟨b0, o0, none⟩) n c, .int .i64 n, .slice (some ⟨gR, 0, none⟩) n n, .func (.func 104) #[] #[.pointer (some ⟨bR, 0, none⟩), .pointer (some ⟨bS, 0, none⟩)], .slice (some ⟨b0, o0, none⟩) n c, .int .i64 n, .int .i64 k, .bool true, .int .i64 k, .pointer (some ⟨b0, o0 + k * 4, none⟩), .agg #[.int .u16 co, .int .u8 jt, .int .u8 jf, .int .u32 kk], u27, u28, u29, u30, u31, u32, u33, u34, u35, u36, u37, u38, u39, u40, u41, u42, u43, u44, u45, u46, u47, u48, u49, u50, u51, u52, u53, u54, u55, u56, u57, u58, u59], defers := Ds.map mark } ∧
          VI vs W ∧ VK OV w W ∧ WB OV n gS gR bS bR bc s W ∧ marksAt Ds W ∧ Blk W g7 3 #[.int .i64 k] ∧ Blk W g8 43 #[.int .u16 co, .int .u8 jt, .int .u8 jf, .int .u32 kk] ∧ ¬ OV W g7 ∧ ¬ OV W g8 := ⟨_, rfl⟩
        have HQM := Lib.hid hQM; clear hQM
        refine wpIn_mono (Q := QM) ?one ?two
        case one =>
          clear hK6
          have p7 := c7.cell 0
          by_cases hk0 : k = 0
          · subst hk0
            have HS := HH.out.2.2.2.1 rfl
            have p5 := hWBa.b5.cell 0
            have HC : Calls Try.prog 104 #[.int .i64 0, .int .u16 0, .pointer (some ⟨bR, 0, none⟩), .pointer (some ⟨bS, 0, none⟩)] wa _ := comeI bR bS gR gS 0 n 0 (List.replicate n 0) (List.replicate n false) wa (by simp) (by simp) (by omega) (Ne.symm y1) ⟨Ne.symm y3, Ne.symm y5⟩ ⟨Ne.symm y2, Ne.symm y4⟩ hWBa.b1 hWBa.b2 hWBa.b3 hWBa.b4
            have HC := Lib.hid HC
            gi_wp2_with (refine ⟨trivial, ?_⟩; gi_at_call 104; refine ((callsIn_wide (n := 2)).2 HC.out).mono ?_; rintro e w3 ⟨⟨v, rfl⟩, e3⟩; have E3 := Lib.hid e3; clear e3)
            have e3 := E3.out
            rw [HQM.out]
            have hcm := came_of e3
            obtain ⟨hVIb, hOVb⟩ := hO.off hVIa (hcm.off ⟨z1, z2⟩ hWBa.n3 hWBa.n4)
            refine ⟨rfl, _, _, _, _, rfl, hVIb, hO.vk hVIa (hcm.off ⟨z1, z2⟩ hWBa.n3 hWBa.n4) hVKa, ?_, ⟨hDa.1, fun D hD => ?_⟩, hcm.blk c7 (by omega) (by omega), hcm.blk c8 (by omega) (by omega), fun h => n7 ((hOVb _).1 h), fun h => n8 ((hOVb _).1 h)⟩
            · rw [HS, ← start_come]
              exact hWBa.come (Ne.symm y1) ⟨Ne.symm y3, Ne.symm y5⟩ ⟨Ne.symm y2, Ne.symm y4⟩ y7 0 0 e3 hOVb
            · have hb := hDa.2 D hD
              refine (hcm.keep D ?_ ?_).trans hb
              · rintro rfl; have := hWBa.b3; unfold Blk at this; rw [this] at hb; cases hb
              · rintro rfl; have := hWBa.b4; unfold Blk at this; rw [this] at hb; cases hb
          · rw [if_neg hk0] at hWBa
            have e0 : ¬ (k : Int) = 0 := by omega
            gi_wp2
            rw [HQM.out]
            exact ⟨rfl, _, _, _, _, rfl, hVIa, hVKa, hWBa, hDa, c7, c8, n7, n8⟩
        case two =>
          rw [HQM.out]
          clear HQM QM
          rintro e a' W ⟨rfl, u27', u28', u29', u30', rfl, hVIb, hVKb, hWBb, hDb', c7', c8', n7', n8'⟩
          clear hVIa hVKa hWBa hDa c7 c8 n7 n8
          simp only [Exit.then]
          obtain ⟨HST, HVS, ⟨hl1, hl2⟩, -, hvs', hs'⟩ := HH.out
          clear HH
          have r1 := hWBb.b1.cell 0
          have r7 := c7'.cell 0
          have r3 := (hWBb.b3.cell k).trans (bools_at s.2 k (by omega))
          have e1 : s.2.getD k false = s.2[k]'(by omega) := by rw [List.getD_eq_getElem?_getD, List.getElem?_eq_getElem (by omega)]; rfl
          rw [← e1] at r3
          clear e1
          cases hr : s.2.getD k false with
          | false =>
            rw [hr] at r3 HST HVS
            simp only [Bool.false_eq_true, if_false, List.append_nil] at HST HVS
            have HE := Lib.hid (And.intro HST (And.intro HVS (And.intro hvs' hs')))
            clear HST HVS hvs' hs' hr
            gi_wp2
            refine ⟨?rel, ?measure⟩
            case rel =>
              repeat apply Exists.intro
              refine ⟨?rr, rfl⟩
              obtain ⟨HST, HVS, hvs', hs'⟩ := HE.out
              exact ⟨k + 1, by omega, by go_num, by rw [hvs', HVS]; exact hVIb, hVKb, by rw [if_neg (by omega), hs', HST]; exact hWBb, Ds, rfl, hDb', hDb⟩
            case measure => simp [intOf]; omega
          | true =>
            rw [hr] at r3 HST HVS
            simp only [if_true] at HST HVS
            have r5 := (hWBb.b4.cell k).trans (masks_at s.1 k (by omega))
            have e2 : s.1.getD k 0 = s.1[k]'(by omega) := by rw [List.getD_eq_getElem?_getD, List.getElem?_eq_getElem (by omega)]; rfl
            rw [← e2] at r5
            clear e2
            have HV2 := Lib.hid (fun W => HV.out W hr)
            generalize hmk : s.1.getD k 0 = mk at *
            have HE := Lib.hid (And.intro HST (And.intro HVS (And.intro hvs' (And.intro hs' hmk))))
            clear HST HVS hvs' hs' hr HV hmk
            gi_wp2_with fail
            refine wpIn_region_last (fun _ => trivial) rfl [.is ?vv0, .is (.int .i64 k), .is (.slice (some ⟨gS, 0, none⟩) n n), .is (.int .i64 k), .is ?vv4, .is (.int .u16 mk)] (by kernel_rfl) (by kernel_rfl) (by kernel_rfl) ?Av ?hAv ⟨?ov0, ?ov1, ?ov2, ?ov3, ?ov4, ?ov5, trivial⟩ _ rfl rfl ?finv
            case hAv => (intro x; simp only [fillOps, Act.put, List.setIfInBounds_toArray, List.set_cons_zero, List.set_cons_succ, Nat.reduceAdd]; rfl)
            case ov0 =>
              intro x U hU
              simp only [depV, OneIn, dstOf, readDst, asBool, VP.is, VP.any, VP.row, VP.ptr, VP.blk, VP.ex, VP.and, VP.of, List.getD_cons_zero, List.getD_cons_succ]
              gi_wp2_with (fail)
              refine done_mk ?_ rfl (Ext.refl _)
              rfl
            case ov1 =>
              intro x U hU
              simp only [depV, OneIn, dstOf, readDst, asBool, VP.is, VP.any, VP.row, VP.ptr, VP.blk, VP.ex, VP.and, VP.of, List.getD_cons_zero, List.getD_cons_succ]
              have h0 := (c7'.ext hU).cell 0
              gi_wp2_with (fail)
              refine done_mk ?_ rfl (Ext.refl _)
              rfl
            case ov2 =>
              intro x U hU
              simp only [depV, OneIn, dstOf, readDst, asBool, VP.is, VP.any, VP.row, VP.ptr, VP.blk, VP.ex, VP.and, VP.of, List.getD_cons_zero, List.getD_cons_succ]
              have h0 := (hWBb.b2.ext hU).cell 0
              gi_wp2_with (fail)
              refine done_mk ?_ rfl (Ext.refl _)
              rfl
            case ov3 =>
              intro x U hU
              simp only [depV, OneIn, dstOf, readDst, asBool, VP.is, VP.any, VP.row, VP.ptr, VP.blk, VP.ex, VP.and, VP.of, List.getD_cons_zero, List.getD_cons_succ]
              have h0 := (c7'.ext hU).cell 0
              gi_wp2_with (fail)
              refine done_mk ?_ rfl (Ext.refl _)
              rfl
            case ov4 =>
              intro x U hU
              simp only [depV, OneIn, dstOf, readDst, asBool, VP.is, VP.any, VP.row, VP.ptr, VP.blk, VP.ex, VP.and, VP.of, List.getD_cons_zero, List.getD_cons_succ]
              intro d2
              intro d3
              simp only [d2, d3]
              gi_wp2_with (fail)
              refine done_mk ?_ rfl (Ext.refl _)
              rfl
            case ov5 =>
              intro x U hU
              simp only [depV, OneIn, dstOf, readDst, asBool, VP.is, VP.any, VP.row, VP.ptr, VP.blk, VP.ex, VP.and, VP.of, List.getD_cons_zero, List.getD_cons_succ]
              intro d4
              simp only [d4]
              have h0 := hU.cell r5
              gi_wp2_with (fail)
              refine done_mk ?_ rfl (Ext.refl _)
              rfl
            case finv =>
              intro x U hU
              simp only [allV, depV, One, dstOf, readDst, asBool, VP.is, VP.any, VP.row, VP.ptr, VP.blk, VP.ex, VP.and, VP.of, List.getD_cons_zero, List.getD_cons_succ]
              intro d0
              intro d1
              intro d2
              intro d3
              intro d4
              intro d5
              simp only [d0, d1, d2, d3, d4, d5]
              clear d0 d1 d2 d3 d4 d5
              obtain ⟨hVIc, hOVc⟩ := hO.off hVIb (Off.of_ext (B := w.heap.size) hU)
              have hVKc := hO.vk hVIb (Off.of_ext hU) hVKb
              have hWBc := hWBb.ext hU hOVc
              have c7c := c7'.ext hU
              have c8c := c8'.ext hU
              have n7c : ¬ OV U g7 := fun h => n7' ((hOVc _).1 h)
              have n8c : ¬ OV U g8 := fun h => n8' ((hOVc _).1 h)
              have hDc : marksAt Ds U := ⟨hDb'.1, fun D hD => (hU.block (Array.getElem?_eq_some_iff.1 (hDb'.2 D hD)).1).trans (hDb'.2 D hD)⟩
              have HVC := Lib.hid (HV2.out U hVIc)
              clear r1 r7 r3 r5 hVIb hVKb hWBb hDb' c7' c8' n7' n8' hOVc hU HV2
              have HW := Lib.hid (fun W => ways_in ⟨co, jt, jf, kk⟩ k n W)
              simp only [Ins.val, Ins.cells] at HW
              gi_wp2_with (first | (refine ⟨trivial, ?_⟩; gi_at_call 105; refine (HW.out _).mono ?_; rintro e w5 ⟨rfl, e5⟩; have E5 := Lib.hid e5; clear e5) | (refine ⟨trivial, ?_⟩; refine ((callsIn_wide (n := 2)).2 HVC.out).mono ?_; rintro e w4 ⟨⟨v, rfl⟩, hVI4, hVK4⟩; have r7 := (hVK4.blk c7c n7c).1.cell 0; have t0 := (hVK4.blk c8c n8c).1.cell 0; have t1 := (hVK4.blk c8c n8c).1.cell 1; have t2 := (hVK4.blk c8c n8c).1.cell 2; have t3 := (hVK4.blk c8c n8c).1.cell 3))
              clear r7 t0 t1 t2 t3 HW HVC
              have hWB4 := hWBc.vk hVK4
              have c74 := (hVK4.blk c7c n7c).1
              have c84 := (hVK4.blk c8c n8c).1
              have hD4 : marksAt Ds w4 := ⟨hDc.1, fun D hD => ((hVK4.keep D (Array.getElem?_eq_some_iff.1 (hDc.2 D hD)).1 (fun ho => by
                obtain ⟨cs, t, z, hc⟩ := hO.cells _ _ _ hVIc ho
                rw [hDc.2 D hD] at hc
                cases hc)).1).trans (hDc.2 D hD)⟩
              have hVKd := hVKc.trans hVK4
              have e5 := E5.out
              have hx5 : Ext w4 w5 := by rw [e5]; exact (((Ext.refl w4).alloc _).alloc _).alloc _
              have s3B : Blk w5 w4.heap.size 43 #[.int .u16 co, .int .u8 jt, .int .u8 jf, .int .u32 kk] := by rw [e5]; exact ((Blk.new w4 _ _).alloc _).alloc _
              have s4B : Blk w5 (w4.heap.size + 1) 3 #[.int .i64 k] := by rw [e5]; exact (Blk.new_ (by simp)).alloc _
              have s5B : Blk w5 (w4.heap.size + 1 + 1) 3 #[.int .i64 n] := by rw [e5]; exact Blk.new_ (by simp)
              clear e5 E5
              have j1 : gS < w4.heap.size := hWB4.b4.lt
              have j2 : gR < w4.heap.size := hWB4.b3.lt
              obtain ⟨hVI5, hOV5⟩ := hO.off hVI4 (Off.of_ext (B := w.heap.size) hx5)
              have hVK5 := hO.vk hVI4 (Off.of_ext hx5) hVKd
              have hWB5 := hWB4.ext hx5 hOV5
              have c75 := c74.ext hx5
              have c85 := c84.ext hx5
              have hD5 : marksAt Ds w5 := ⟨hD4.1, fun D hD => (hx5.block (Array.getElem?_eq_some_iff.1 (hD4.2 D hD)).1).trans (hD4.2 D hD)⟩
              have hDl : ∀ D ∈ Ds, D < w5.heap.size := fun D hD => (Array.getElem?_eq_some_iff.1 (hD5.2 D hD)).1
              have hw5 : w.heap.size ≤ w5.heap.size := hVK5.size
              clear hVIc hVKc hWBc c7c c8c n7c n8c hDc hVI4 hVK4 hWB4 c74 c84 hD4 hVKd hOV5 U hx5
              have jj : w4.heap.size + 1 ≠ gS ∧ w4.heap.size + 1 ≠ gR ∧ w4.heap.size + 1 + 1 ≠ gS ∧ w4.heap.size + 1 + 1 ≠ gR := by omega
              generalize w4.heap.size + 1 + 1 = s5 at *
              generalize w4.heap.size + 1 = s4 at *
              generalize w4.heap.size = s3 at *
              have HI := Lib.hid hik
              have HWr := Lib.hid (fun W => writesI ⟨co, jt, jf, kk⟩ hik W)
              simp only [Ins.val, Ins.cells] at HWr
              have hmk := HE.out.2.2.2.2
              have HMK := Lib.hid hmk
              have HL := Lib.hid (And.intro hl1 hl2)
              clear hmk hik hl1 hl2
              generalize hm : bits .or .u16 mk (wrM ⟨co, jt, jf, kk⟩) = m at *
              have HM := Lib.hid hm
              clear hm
              generalize wrM ⟨co, jt, jf, kk⟩ = wm at *
              refine rangeFunc_tellsB rfl (by decide) (gf := 110) (lb := #[.pointer (some ⟨s3, 0, none⟩), .pointer (some ⟨s4, 0, none⟩), .pointer (some ⟨s5, 0, none⟩)]) rfl trivial (enters_of Try.func110 (by kernel_rfl) rfl)
                (ways_tells s3 s4 s5 ⟨co, jt, jf, kk⟩ HI.out k n (by omega) (fun _ b => b = gS ∨ b = gR) (fun W => gS < W.heap.size ∧ gR < W.heap.size) (fun W b hb ho => by rcases ho with rfl | rfl; exact hb.1; exact hb.2) (fun W W' b hb e ho => ho) (fun W hb => ⟨by omega, by omega, by omega⟩) w5 s3B s4B s5B)
                (fun h k => h.trans k)
                (fun W l o o' hl h hc hw b cs t hb ho => ?kb) (Below.refl _ _) (fun _ => rfl)
                (fun x W l o o' hG hl hc => hG)
                (WL OV VI w n gS gR bS bR bc g7 g8 k ⟨co, jt, jf, kk⟩ Ds (vs ++ [(k, mk)]) m s) (fun pre W h => ⟨h.wb.b4.lt, h.wb.b3.lt⟩) (WL_own OV VI w hO n gS gR bS bR bc g7 g8 k ⟨co, jt, jf, kk⟩ Ds (vs ++ [(k, mk)]) m s w5.heap.size hw5 hDl)
                ⟨(fun y hy => by cases hy), hVI5, hVK5, hWB5, c75, c85, hD5⟩
                (fun y : Int => { tmps := #[.slice (some ⟨b0, o0, none⟩) n c, .func (.func vf) #[] lb, undef, undef, .pointer (some ⟨bS, 0, none⟩), .pointer (some ⟨bR, 0, none⟩), .pointer (some ⟨bc, 0, none⟩), .pointer (some ⟨g7, 0, none⟩), .pointer (some ⟨g8, 0, none⟩), .int .i64 y, .slice (some ⟨b0, o0, none⟩) n c, .int .i64 n, .bool false, .slice (some ⟨b0, o0, none⟩) n c, .int .i64 n, .slice (some ⟨gS, 0, none⟩) n n, .slice (some ⟨b0, o0, none⟩) n c, .int .i64 n, .slice (some ⟨gR, 0, none⟩) n n, .func (.func 104) #[] #[.pointer (some ⟨bR, 0, none⟩), .pointer (some ⟨bS, 0, none⟩)], .slice (some ⟨b0, o0, none⟩) n c, .int .i64 n, .int .i64 k, .bool true, .int .i64 k, .pointer (some ⟨b0, o0 + k * 4, none⟩), .agg #[.int .u16 co, .int .u8 jt, .int .u8 jf, .int .u32 kk], u27', u28', u29', u30', .slice (some ⟨gR, 0, none⟩) n n, .int .i64 k, .pointer (some ⟨gR, k, none⟩), .bool true, .bool false, .func (.func vf) #[] lb, .int .i64 k, .slice (some ⟨gS, 0, none⟩) n n, .int .i64 k, .pointer (some ⟨gS, k, none⟩), .int .u16 mk, v, .agg #[.int .u16 co, .int .u8 jt, .int .u8 jf, .int .u32 kk], .int .i64 k, .slice (some ⟨b0, o0, none⟩) n c, .int .i64 n, .func (.func 110) #[] #[.pointer (some ⟨s3, 0, none⟩), .pointer (some ⟨s4, 0, none⟩), .pointer (some ⟨s5, 0, none⟩)], .int .i64 y, u49, u50, u51, u52, u53, u54, u55, u56, u57, u58, u59], defers := [] }) ?assign ?body ?done
              case kb =>
                have hne : b ≠ l := fun e => by
                  subst e
                  unfold Blk at hb
                  rw [h] at hb
                  injection hb with hb
                  subst hb
                  cases hc
                exact ⟨hb.grown (grownBy_putObj' W l o') (fun e => by injection e with e; exact hne e), ho⟩
              case assign =>
                intro l y W K hK
                gi_wp2
                exact hK
              case body =>
                clear hVI5 hVK5 hWB5 c75 c85 hD5 s3B s4B s5B
                rintro l pre y W2 hI hG hlt2
                dsimp only
                have hfar : (k : Int) < y ∧ y < n := by
                  obtain ⟨h1, h2⟩ := takeWhile_mem _ _ hG
                  have := wayRaw_pos _ HI.out k (by omega) y h1
                  simp at h2
                  omega
                obtain ⟨z, rfl⟩ : ∃ z : Nat, y = (z : Int) := ⟨y.toNat, by omega⟩
                clear hG HI
                obtain ⟨hi1, hi2, hi3, hi4, hi5, hi6, hi7⟩ := hI
                have HF := Lib.hid hi1
                have hS1 := (come_foldl_len m pre s).1.trans HL.out.1
                have hR1 := (come_foldl_len m pre s).2.trans HL.out.2
                have hat := (foldl_come_at m k pre s hi1).trans HMK.out
                have HFA := Lib.hid (show come1 m (pre.foldl (come1 m) s) z = (pre ++ [(z : Int)]).foldl (come1 m) s by rw [List.foldl_append]; rfl)
                generalize pre.foldl (come1 m) s = st at *
                have b0' := hi4.b5.cell 0
                have b2' := hi4.b2.cell 0
                have b7' := hi5.cell 0
                have p0' := hi6.cell 0
                have p1' := hi6.cell 1
                have p2' := hi6.cell 2
                have p3' := hi6.cell 3
                have b5' := (hi4.b4.cell k).trans (masks_at st.1 k (by omega))
                have e2 : st.1.getD k 0 = st.1[k]'(by omega) := by rw [List.getD_eq_getElem?_getD, List.getElem?_eq_getElem (by omega)]; rfl
                rw [← e2, hat] at b5'
                clear e2 hat hi1
                refine wpIn_block ?_
                refine wpIn_region_last (fun _ => trivial) rfl [.is (.func (.func 104) #[] #[.pointer (some ⟨bR, 0, none⟩), .pointer (some ⟨bS, 0, none⟩)]), .is ?vc1, .is (.slice (some ⟨gS, 0, none⟩) n n), .is (.int .i64 k), .is ?vc4, .is (.int .u16 mk), .is (.agg #[.int .u16 co, .int .u8 jt, .int .u8 jf, .int .u32 kk]), .is (.int .u16 wm), .is (.int .u16 m)] (by kernel_rfl) (by kernel_rfl) (by kernel_rfl) ?Ac ?hAc ⟨?oc0, ?oc1, ?oc2, ?oc3, ?oc4, ?oc5, ?oc6, ?oc7, ?oc8, trivial⟩ _ rfl rfl ?finc
                case hAc => (intro x; simp only [fillOps, Act.put, List.setIfInBounds_toArray, List.set_cons_zero, List.set_cons_succ, Nat.reduceAdd]; rfl)
                case oc0 =>
                  intro x U hU
                  simp only [depV, OneIn, dstOf, readDst, asBool, VP.is, VP.any, VP.row, VP.ptr, VP.blk, VP.ex, VP.and, VP.of, List.getD_cons_zero, List.getD_cons_succ]
                  have h0 := hU.cell b0'
                  gi_wp2_with (fail)
                  refine done_mk ?_ rfl (Ext.refl _)
                  rfl
                case oc1 =>
                  intro x U hU
                  simp only [depV, OneIn, dstOf, readDst, asBool, VP.is, VP.any, VP.row, VP.ptr, VP.blk, VP.ex, VP.and, VP.of, List.getD_cons_zero, List.getD_cons_succ]
                  gi_wp2_with (fail)
                  refine done_mk ?_ rfl (Ext.refl _)
                  rfl
                case oc2 =>
                  intro x U hU
                  simp only [depV, OneIn, dstOf, readDst, asBool, VP.is, VP.any, VP.row, VP.ptr, VP.blk, VP.ex, VP.and, VP.of, List.getD_cons_zero, List.getD_cons_succ]
                  have h0 := hU.cell b2'
                  gi_wp2_with (fail)
                  refine done_mk ?_ rfl (Ext.refl _)
                  rfl
                case oc3 =>
                  intro x U hU
                  simp only [depV, OneIn, dstOf, readDst, asBool, VP.is, VP.any, VP.row, VP.ptr, VP.blk, VP.ex, VP.and, VP.of, List.getD_cons_zero, List.getD_cons_succ]
                  have h0 := hU.cell b7'
                  gi_wp2_with (fail)
                  refine done_mk ?_ rfl (Ext.refl _)
                  rfl
                case oc4 =>
                  intro x U hU
                  simp only [depV, OneIn, dstOf, readDst, asBool, VP.is, VP.any, VP.row, VP.ptr, VP.blk, VP.ex, VP.and, VP.of, List.getD_cons_zero, List.getD_cons_succ]
                  intro d2
                  intro d3
                  simp only [d2, d3]
                  gi_wp2_with (fail)
                  refine done_mk ?_ rfl (Ext.refl _)
                  rfl
                case oc5 =>
                  intro x U hU
                  simp only [depV, OneIn, dstOf, readDst, asBool, VP.is, VP.any, VP.row, VP.ptr, VP.blk, VP.ex, VP.and, VP.of, List.getD_cons_zero, List.getD_cons_succ]
                  intro d4
                  simp only [d4]
                  have h0 := hU.cell b5'
                  gi_wp2_with (fail)
                  refine done_mk ?_ rfl (Ext.refl _)
                  rfl
                case oc6 =>
                  intro x U hU
                  simp only [depV, OneIn, dstOf, readDst, asBool, VP.is, VP.any, VP.row, VP.ptr, VP.blk, VP.ex, VP.and, VP.of, List.getD_cons_zero, List.getD_cons_succ]
                  have h0 := hU.cell p0'
                  have h1 := hU.cell p1'
                  have h2 := hU.cell p2'
                  have h3 := hU.cell p3'
                  gi_wp2_with (fail)
                  refine done_mk ?_ rfl (Ext.refl _)
                  rfl
                case oc7 =>
                  intro x U hU
                  simp only [depV, OneIn, dstOf, readDst, asBool, VP.is, VP.any, VP.row, VP.ptr, VP.blk, VP.ex, VP.and, VP.of, List.getD_cons_zero, List.getD_cons_succ]
                  intro d6
                  simp only [d6]
                  gi_wp2_with (refine ⟨trivial, ?_⟩; gi_at_call 106; refine (CallsIn.inRound l ((callsIn_wide (n := 0)).2 (HWr.out _))).mono ?_; rintro e w6 ⟨rfl, hx6⟩)
                  refine done_mk ?_ rfl (hx6)
                  rfl
                case oc8 =>
                  intro x U hU
                  simp only [depV, OneIn, dstOf, readDst, asBool, VP.is, VP.any, VP.row, VP.ptr, VP.blk, VP.ex, VP.and, VP.of, List.getD_cons_zero, List.getD_cons_succ]
                  intro d5
                  intro d7
                  simp only [d5, d7]
                  have h0 := HM.out
                  gi_wp2_with (fail)
                  refine done_mk ?_ rfl (Ext.refl _)
                  rfl
                case finc =>
                  intro x U hU
                  simp only [allV, depV, One, dstOf, readDst, asBool, VP.is, VP.any, VP.row, VP.ptr, VP.blk, VP.ex, VP.and, VP.of, List.getD_cons_zero, List.getD_cons_succ]
                  intro d0
                  intro d1
                  intro d2
                  intro d3
                  intro d4
                  intro d5
                  intro d6
                  intro d7
                  intro d8
                  simp only [d0, d1, d2, d3, d4, d5, d6, d7, d8]
                  clear d0 d1 d2 d3 d4 d5 d6 d7 d8
                  obtain ⟨hv7, ho7⟩ := hO.off hi2 (Off.of_ext (B := w.heap.size) hU)
                  have hk7 := hO.vk hi2 (Off.of_ext hU) hi3
                  have hw7 := hi4.ext hU ho7
                  have hc7 := hi5.ext hU
                  have hc8 := hi6.ext hU
                  have hd7 : marksAt Ds U := ⟨hi7.1, fun D hD => (hU.block (Array.getElem?_eq_some_iff.1 (hi7.2 D hD)).1).trans (hi7.2 D hD)⟩
                  have HC := Lib.hid (comeI bR bS gR gS z n m st.1 st.2 U hS1 hR1 (by omega) (Ne.symm y1) ⟨Ne.symm y3, Ne.symm y5⟩ ⟨Ne.symm y2, Ne.symm y4⟩ hw7.b1 hw7.b2 hw7.b3 hw7.b4)
                  clear hi2 hi3 hi4 hi5 hi6 hi7 b0' b2' b7' p0' p1' p2' p3' b5' ho7
                  obtain ⟨QR, hQR⟩ : ∃ QR, QR = roundEnd w5.heap.size (KpO fun _ b => b = gS ∨ b = gR) (WL OV VI w n gS gR bS bR bc g7 g8 k ⟨co, jt, jf, kk⟩ Ds (vs ++ [(k, mk)]) m s) (pre ++ [(z : Int)]) W2 := ⟨_, rfl⟩
                  rw [← hQR]
                  have HQR := Lib.hid hQR; clear hQR
                  gi_wp2_with (refine ⟨trivial, ?_⟩; gi_at_call 104; refine (CallsIn.inRound l ((callsIn_wide (n := 0)).2 HC.out)).mono ?_; rintro e w8 ⟨⟨v8, rfl⟩, e8⟩; have E8 := Lib.hid e8; clear e8)
                  have e8 := E8.out
                  rw [HQR.out]
                  have hcm := came_of e8
                  obtain ⟨hv8, ho8⟩ := hO.off hv7 (hcm.off ⟨z1, z2⟩ hw7.n3 hw7.n4)
                  refine ⟨KeepsFrom.trans (KeepsOthers.from ⟨hU.size, fun b o hb _ => (hU.block (Array.getElem?_eq_some_iff.1 hb).1).trans hb⟩ _) ⟨by rw [hcm.size]; exact Nat.le_refl _, fun b o _ hb hc => (hcm.keep b ?_ ?_).trans hb⟩, fun b cs t hb ho => ⟨hcm.blk (hb.ext hU) (fun e => ho (.inr e)) (fun e => ho (.inl e)), ho⟩, ?_, hv8, hO.vk hv7 (hcm.off ⟨z1, z2⟩ hw7.n3 hw7.n4) hk7, ?_, hcm.blk hc7 (by omega) (by omega), hcm.blk hc8 (by omega) (by omega), hd7.1, fun D hD => ?_⟩
                  · rintro rfl; have := hw7.b3; unfold Blk at this; rw [this] at hb; cases hb; cases hc
                  · rintro rfl; have := hw7.b4; unfold Blk at this; rw [this] at hb; cases hb; cases hc
                  · intro y hy
                    rcases List.mem_append.1 hy with h | h
                    · exact HF.out y h
                    · rw [List.mem_singleton.1 h]; exact hfar.1
                  · rw [← HFA.out]
                    exact hw7.come (Ne.symm y1) ⟨Ne.symm y3, Ne.symm y5⟩ ⟨Ne.symm y2, Ne.symm y4⟩ y7 z m e8 ho8
                  · have hb := hd7.2 D hD
                    refine (hcm.keep D ?_ ?_).trans hb
                    · rintro rfl; have := hw7.b3; unfold Blk at this; rw [this] at hb; cases hb
                    · rintro rfl; have := hw7.b4; unfold Blk at this; rw [this] at hb; cases hb
              case done =>
                clear hVI5 hVK5 hWB5 c75 c85 hD5 s3B s4B s5B HWr
                rintro D xs W3 hD hxs hI hDn
                subst hxs
                gi_wp2
                refine ⟨?relB, ?measureB⟩
                case relB =>
                  repeat apply Exists.intro
                  refine ⟨?rrB, rfl⟩
                  obtain ⟨HST, HVS, hvs', hs', _⟩ := HE.out
                  refine ⟨k + 1, by omega, by go_num, ?_, hI.vk, ?_, D :: Ds, rfl, ⟨List.nodup_cons.2 ⟨fun h => ?_, hI.marks.1⟩, fun E hE => ?_⟩, fun E hE => ?_⟩
                  · rw [hvs', HVS]; exact hI.vi
                  · rw [if_neg (by omega), hs', HST]; exact hI.wb
                  · have := hDl D h; omega
                  · rcases List.mem_cons.1 hE with rfl | h
                    · exact hDn
                    · exact hI.marks.2 E h
                  · rcases List.mem_cons.1 hE with rfl | h
                    · omega
                    · exact hDb E h
                case measureB => simp [intOf]; omega
      · obtain rfl : k = n := by omega
        have hVI2 : VI (visits ps k) wr := hVI
        gi_wp2
        refine leaves_marks Ds wr hDs ⟨_, results_none rfl _ _ _, ⟨_, rfl⟩, ?_⟩
        have hcell : ∀ b, OV wr b → b ∉ Ds := fun b ho hb => by
          obtain ⟨cs, t, z, hc⟩ := hO.cells _ _ _ hVI ho
          rw [hDs.2 b hb] at hc
          cases hc
        have hoff : Off OV w.heap.size wr (shutAll Ds wr) := ⟨(shutAll_rest Ds wr).1, (shutAll_rest Ds wr).2.1, (shutAll_rest Ds wr).2.2, by rw [shutAll_size]; exact Nat.le_refl _, fun b _ ho => shutAll_block Ds wr b (fun hb => by
          rcases ho with ho | ho
          · have := hDb b hb; omega
          · exact hcell b ho hb)⟩
        exact ⟨(hO.off hVI hoff).1, hO.vk hVI hoff hVK⟩
end Go.Proofs.Ytjlhfmedaandeaa

/- cells.walk of too long a program; cells.Reached and cells.Sure. -/
namespace Go.Proofs.Ytjlhfmedaandeaa
open Go.RowKit Go.ChangeShapes Go.WideShapes
set_option linter.unusedVariables false
set_option linter.unusedSimpArgs false

set_option maxRecDepth 100000 in
theorem walkBig (A : Option Addr) (n c : Nat) (hn : 4096 < n) (vf : Nat) (lb : Array Value) (w : World) :
    Calls Try.prog 91 #[.slice A n c, .func (.func vf) #[] lb] w fun e w' => (∃ v, e = .returned v) ∧ w = w' := by
  have d1 : (4096 : Int) < n := by omega
  refine (callsIn_wide (n := 3)).1 ?_
  refine callsIn_of_wp_marks Try.func91 rfl trivial ?_ rfl
  simp only [Try.ntmps91, List.size_toArray, List.length_cons, List.length_nil, Nat.reduceAdd, Nat.reduceSub, Array.replicate_succ, Array.replicate_zero, List.push_toArray, List.append_toArray, List.nil_append, List.cons_append]
  gi_wp2
  exact ⟨_, results_none rfl _ _ _, ⟨_, rfl⟩, rfl⟩

/-- A row and its box, owned by a closure. -/
def RowOwn (b g : Nat) (_ : World) (x : Nat) : Prop := x = b ∨ x = g
def RowVI {α : Type} (t1 t2 : TypeId) (n b g : Nat) (cs : α → Array Value) (s : α) (W : World) : Prop := Blk W b t1 #[.slice (some ⟨g, 0, none⟩) n n] ∧ Blk W g t2 (cs s)
theorem rowOwns {α : Type} (t1 t2 : TypeId) (n b g : Nat) (cs : α → Array Value) (B : Nat) : Owns (RowOwn b g) (RowVI t1 t2 n b g cs) B :=
  ⟨fun s W x h o => by
    rcases o with rfl | rfl
    · exact ⟨_, _, _, h.1⟩
    · exact ⟨_, _, _, h.2⟩,
  fun s W W' h o => ⟨⟨o.blk h.1 (.inr (.inl rfl)), o.blk h.2 (.inr (.inr rfl))⟩, fun _ => Iff.rfl⟩⟩
theorem rowVK {b g i : Nat} {W : World} (u : Value) : VK (RowOwn b g) W (W.setCell ⟨g, i, none⟩ u) :=
  ⟨rfl, rfl, rfl, by simp, fun x hx ho => ⟨Below.heap_setCell W ⟨g, i, none⟩ u x (fun e => ho (.inr e)), ho⟩⟩
/-- The marks, the masks, that the visits set. -/
def marksOf (n : Nat) (vs : List (Nat × Int)) : List Bool := vs.foldl (fun l v => l.set v.1 true) (List.replicate n false)
def masksOf (n : Nat) (vs : List (Nat × Int)) : List Int := vs.foldl (fun l v => l.set v.1 v.2) (List.replicate n 65535)
theorem marksOf_snoc (n : Nat) (vs : List (Nat × Int)) (v : Nat × Int) : marksOf n (vs ++ [v]) = (marksOf n vs).set v.1 true := by simp [marksOf, List.foldl_append]
theorem masksOf_snoc (n : Nat) (vs : List (Nat × Int)) (v : Nat × Int) : masksOf n (vs ++ [v]) = (masksOf n vs).set v.1 v.2 := by simp [masksOf, List.foldl_append]
theorem foldl_len {α β : Type} (f : List β → α → List β) (hf : ∀ l a, (f l a).length = l.length) : ∀ (vs : List α) (l : List β), (vs.foldl f l).length = l.length
  | [], _ => rfl
  | v :: vs, l => by rw [List.foldl_cons, foldl_len f hf vs, hf]
theorem marksOf_len (n : Nat) (vs : List (Nat × Int)) : (marksOf n vs).length = n := by
  unfold marksOf
  rw [foldl_len _ (fun l a => by simp)]
  simp
theorem masksOf_len (n : Nat) (vs : List (Nat × Int)) : (masksOf n vs).length = n := by
  unfold masksOf
  rw [foldl_len _ (fun l a => by simp)]
  simp

theorem ext_of_vk {OV : World → Nat → Prop} {w w1 W' : World} (h : Ext w w1) (k : VK OV w1 W') (ho : ∀ b, b < w.heap.size → ¬ OV w1 b) : Ext w W' :=
  ⟨k.os.trans h.os, k.tape.trans h.tape, k.output.trans h.output, Nat.le_trans h.size k.size, fun b hb => ((k.keep b (Nat.lt_of_lt_of_le hb h.size) (ho b hb)).1).trans (h.block hb)⟩

/-- cells.Reached's answer, cells.Sure's. -/
def reachT (ps : List Ins) : List Bool := if 4096 < ps.length then [] else marksOf ps.length (visits ps ps.length)
def sureT (ps : List Ins) : List Int := if 4096 < ps.length then [] else masksOf ps.length (visits ps ps.length)

end Go.Proofs.Ytjlhfmedaandeaa
