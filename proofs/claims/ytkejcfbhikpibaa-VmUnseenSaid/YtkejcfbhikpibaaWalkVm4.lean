import Derived.Test.YtkejcfbhikpibaaWalkVm1
/- The law VmOne, walked. -/
namespace Go.Proofs.Ytkejcfbhikpibaa
open Go.RowKit Go.ChangeShapes Go.WideShapes
set_option linter.unusedVariables false
set_option linter.unusedSimpArgs false

theorem splice_pc4 (i : Ins) : ∀ (ps : List Ins) (k : Nat), k < ps.length → splice (pc ps) (k * 4) i.cells.toList = pc (ps.set k i)
  | [], _, h => by simp at h
  | p :: ps, 0, _ => by
    unfold splice
    rw [pc_cons, List.set_cons_zero, pc_cons]
    simp [Ins.cells]
  | p :: ps, k + 1, h => by
    have ih := splice_pc4 i ps k (by simpa using h)
    rw [List.set_cons_succ, pc_cons, pc_cons, ← ih]
    unfold splice
    have e : (k + 1) * 4 = p.cells.toList.length + k * 4 := by simp [Ins.cells]; omega
    rw [e, take_more, List.append_assoc]
    congr 2
    rw [Nat.add_assoc, drop_more]
where
  take_more {α : Type} {l m : List α} {n : Nat} : (l ++ m).take (l.length + n) = l ++ m.take n := by rw [List.take_length_add_append]
  drop_more {α : Type} {l m : List α} {n : Nat} : (l ++ m).drop (l.length + n) = m.drop n := by rw [List.drop_length_add_append]
theorem take_splice {α : Type} (L cs : List α) (o m : Nat) (h : o + cs.length ≤ m) (hm : m ≤ L.length) : (splice L o cs).take m = splice (L.take m) o cs := by
  unfold splice
  rw [List.take_append, List.take_append, List.take_take, List.drop_take, List.length_take, List.take_of_length_le (l := cs) (by omega), show min o L.length = o by omega, show min m o = o by omega, List.take_take, show min o m = o by omega, show m - o - cs.length = m - (o + cs.length) by omega]
/-- An instruction in a row of the call's own is written. -/
theorem own_insn {w : World} {base g n cap : Nat} {t : TypeId} {ps : List Ins} (h : w.ownsRow base t 4 (.slice (some ⟨g, 0, none⟩) n cap) n (pc ps)) {k : Nat} (hk : k < ps.length) (i : Ins) :
    ∃ cur : List Value, Blk w g t cur.toArray ∧ k * 4 + 4 ≤ cur.length ∧ ∀ w', Blk w' g t (splice cur (k * 4) i.cells.toList).toArray → w'.ownsRow base t 4 (.slice (some ⟨g, 0, none⟩) n cap) n (pc (ps.set k i)) := by
  obtain ⟨h1, ⟨hv, _⟩ | ⟨g', cap', cur, hv, hb, hh, hn, hm, hs, ht⟩⟩ := h
  · cases hv
  injection hv with e1 _ e2
  injection e1 with e1
  injection e1 with e1
  subst e1 e2
  rw [pc_length] at h1
  have hl : cur.toList.length = cap * 4 := by simpa using hs
  have hc : i.cells.toList.length = 4 := rfl
  refine ⟨cur.toList, by unfold Blk; simpa using hh, by omega, fun w' hw => ?_⟩
  refine ⟨by rw [pc_length, List.length_set]; omega, .inr ⟨g, cap, _, rfl, hb, hw, hn, hm, ?_, ?_⟩⟩
  · rw [List.size_toArray, length_splice _ _ _ (by omega), hl]
  · rw [show (splice cur.toList (k * 4) i.cells.toList).toArray.toList = splice cur.toList (k * 4) i.cells.toList from rfl, take_splice _ _ _ _ (by omega) (by omega), ht]
    exact splice_pc4 i ps k hk

theorem one_ok (i : Ins) (hi : i.ok) (a x c : Int) (ha : U32 a) (hx : U32 x) (hc : U32 c) : ∀ j ∈ ([⟨0, 0, 0, c⟩, ⟨2, 0, 0, i.k % 16⟩, ⟨1, 0, 0, x⟩, ⟨0, 0, 0, a⟩, i, ⟨3, 0, 0, 15⟩, ⟨22, 0, 0, 0⟩] : List Ins), j.ok := by
  have hk : U32 i.k := hi.2.2.2
  have mk : ∀ (co k : Int), 0 ≤ co ∧ co < 65536 → U32 k → (⟨co, 0, 0, k⟩ : Ins).ok := fun co k h1 h2 => ⟨⟨h1.1, by have := h1.2; dsimp only; omega⟩, ⟨by simp, by simp⟩, ⟨by simp, by simp⟩, h2⟩
  intro j hj
  simp only [List.mem_cons, List.not_mem_nil, or_false] at hj
  rcases hj with rfl | rfl | rfl | rfl | rfl | rfl | rfl
  · exact mk _ _ (by decide) hc
  · exact mk _ _ (by decide) ⟨by have := hk.1; omega, by have := hk.1; omega⟩
  · exact mk _ _ (by decide) hx
  · exact mk _ _ (by decide) ha
  · exact hi
  · exact mk _ _ (by decide) ⟨by decide, by decide⟩
  · exact mk _ _ (by decide) ⟨by decide, by decide⟩
set_option maxHeartbeats 4000000 in
set_option maxRecDepth 100000 in
theorem vmOne_walk (i : Ins) (hi : i.ok) (a : Int) (ha : (Lit.int .u32 a).wf = true) (x : Int) (hx : (Lit.int .u32 x).wf = true) (ce : Int) (hc : (Lit.int .u32 ce).wf = true) (d : Dat) (hd : d.ok) (w : World) :
    Calls Try.prog 4 #[i.val, .int .u32 a, .int .u32 x, .int .u32 ce, d.val] w fun e w' => e = .returned (.bool true) ∧ Ext w w' := by
  obtain ⟨a0', a1'⟩ := bounds_u32 ha
  obtain ⟨x0', x1'⟩ := bounds_u32 hx
  obtain ⟨c0', c1'⟩ := bounds_u32 hc
  have OK := one_ok i hi a x ce ⟨a0', by omega⟩ ⟨x0', by omega⟩ ⟨c0', by omega⟩
  have ik := hi.2.2.2.1
  clear hi ha hx hc
  obtain ⟨co, jt, jf, k⟩ := i
  obtain ⟨nr, arch, ip, a0, a1, a2, a3, a4, a5⟩ := d
  unfold Ins.val Ins.cells
  dsimp only at *
  obtain ⟨i0, hin, hz0, hz1, hz2⟩ := info_parts info_ins
  have HI := Lib.hid hin; have HZ0 := Lib.hid hz0; have HZ1 := Lib.hid hz1; have HZ2 := Lib.hid hz2
  have OKH := Lib.hid OK
  clear hin hz0 hz1 hz2 OK
  have H2 := Lib.hid (fun A n c ps hp hok hn W h => vmRun A n c ps hp hok hn ⟨nr, arch, ip, a0, a1, a2, a3, a4, a5⟩ hd W h)
  have H4 := Lib.hid (fun A n c ps hp hok hn W h => refRun A n c ps hp hok hn ⟨nr, arch, ip, a0, a1, a2, a3, a4, a5⟩ hd W h)
  generalize hdd : (⟨nr, arch, ip, a0, a1, a2, a3, a4, a5⟩ : Dat) = dd at *
  have hdv : dd.val = .agg #[.int .u32 nr, .int .u32 arch, .int .u64 ip, .int .u64 a0, .int .u64 a1, .int .u64 a2, .int .u64 a3, .int .u64 a4, .int .u64 a5] := by rw [← hdd]
  rw [hdv] at H2 H4 ⊢
  clear hdd hdv hd
  go_enter Try.func4, Try.ntmps4
  go_wp2_with fail
  have hx0 : Ext w (((w.alloc (.cells #[.int .u16 co, .int .u8 jt, .int .u8 jf, .int .u32 k] 32)).alloc (.cells #[.int .u32 nr, .int .u32 arch, .int .u64 ip, .int .u64 a0, .int .u64 a1, .int .u64 a2, .int .u64 a3, .int .u64 a4, .int .u64 a5] 36)).alloc (.cells #[.int .u16 0, .int .u8 0, .int .u8 0, .int .u32 ce, .int .u16 2, .int .u8 0, .int .u8 0, .int .u32 (k % 16), .int .u16 1, .int .u8 0, .int .u8 0, .int .u32 x, .int .u16 0, .int .u8 0, .int .u8 0, .int .u32 a, .int .u16 co, .int .u8 jt, .int .u8 jf, .int .u32 k, .int .u16 3, .int .u8 0, .int .u8 0, .int .u32 15, .int .u16 22, .int .u8 0, .int .u8 0, .int .u32 0] 32)) := (((Ext.refl w).alloc _).alloc _).alloc _
  have bd0 : Blk (((w.alloc (.cells #[.int .u16 co, .int .u8 jt, .int .u8 jf, .int .u32 k] 32)).alloc (.cells #[.int .u32 nr, .int .u32 arch, .int .u64 ip, .int .u64 a0, .int .u64 a1, .int .u64 a2, .int .u64 a3, .int .u64 a4, .int .u64 a5] 36)).alloc (.cells #[.int .u16 0, .int .u8 0, .int .u8 0, .int .u32 ce, .int .u16 2, .int .u8 0, .int .u8 0, .int .u32 (k % 16), .int .u16 1, .int .u8 0, .int .u8 0, .int .u32 x, .int .u16 0, .int .u8 0, .int .u8 0, .int .u32 a, .int .u16 co, .int .u8 jt, .int .u8 jf, .int .u32 k, .int .u16 3, .int .u8 0, .int .u8 0, .int .u32 15, .int .u16 22, .int .u8 0, .int .u8 0, .int .u32 0] 32)) (w.heap.size + 1) 36 #[.int .u32 nr, .int .u32 arch, .int .u64 ip, .int .u64 a0, .int .u64 a1, .int .u64 a2, .int .u64 a3, .int .u64 a4, .int .u64 a5] := (Blk.new_ (by simp)).alloc _
  have bp0 : Blk (((w.alloc (.cells #[.int .u16 co, .int .u8 jt, .int .u8 jf, .int .u32 k] 32)).alloc (.cells #[.int .u32 nr, .int .u32 arch, .int .u64 ip, .int .u64 a0, .int .u64 a1, .int .u64 a2, .int .u64 a3, .int .u64 a4, .int .u64 a5] 36)).alloc (.cells #[.int .u16 0, .int .u8 0, .int .u8 0, .int .u32 ce, .int .u16 2, .int .u8 0, .int .u8 0, .int .u32 (k % 16), .int .u16 1, .int .u8 0, .int .u8 0, .int .u32 x, .int .u16 0, .int .u8 0, .int .u8 0, .int .u32 a, .int .u16 co, .int .u8 jt, .int .u8 jf, .int .u32 k, .int .u16 3, .int .u8 0, .int .u8 0, .int .u32 15, .int .u16 22, .int .u8 0, .int .u8 0, .int .u32 0] 32)) (w.heap.size + 2) 32 #[.int .u16 0, .int .u8 0, .int .u8 0, .int .u32 ce, .int .u16 2, .int .u8 0, .int .u8 0, .int .u32 (k % 16), .int .u16 1, .int .u8 0, .int .u8 0, .int .u32 x, .int .u16 0, .int .u8 0, .int .u8 0, .int .u32 a, .int .u16 co, .int .u8 jt, .int .u8 jf, .int .u32 k, .int .u16 3, .int .u8 0, .int .u8 0, .int .u32 15, .int .u16 22, .int .u8 0, .int .u8 0, .int .u32 0] := Blk.new_ (by simp)
  have hr0 : (((w.alloc (.cells #[.int .u16 co, .int .u8 jt, .int .u8 jf, .int .u32 k] 32)).alloc (.cells #[.int .u32 nr, .int .u32 arch, .int .u64 ip, .int .u64 a0, .int .u64 a1, .int .u64 a2, .int .u64 a3, .int .u64 a4, .int .u64 a5] 36)).alloc (.cells #[.int .u16 0, .int .u8 0, .int .u8 0, .int .u32 ce, .int .u16 2, .int .u8 0, .int .u8 0, .int .u32 (k % 16), .int .u16 1, .int .u8 0, .int .u8 0, .int .u32 x, .int .u16 0, .int .u8 0, .int .u8 0, .int .u32 a, .int .u16 co, .int .u8 jt, .int .u8 jf, .int .u32 k, .int .u16 3, .int .u8 0, .int .u8 0, .int .u32 15, .int .u16 22, .int .u8 0, .int .u8 0, .int .u32 0] 32)).ownsRow (w.heap.size + 2) 32 4 (.slice (some ⟨w.heap.size + 2, 0, none⟩) 7 7) 7 (pc [⟨0, 0, 0, ce⟩, ⟨2, 0, 0, k % 16⟩, ⟨1, 0, 0, x⟩, ⟨0, 0, 0, a⟩, ⟨co, jt, jf, k⟩, ⟨3, 0, 0, 15⟩, ⟨22, 0, 0, 0⟩]) :=
    ⟨rfl, .inr ⟨_, 7, _, rfl, Nat.le_refl _, bp0, Nat.le_refl _, by unfold maxLen; omega, rfl, rfl⟩⟩
  have hz0 := bp0.lt
  generalize ((w.alloc (.cells #[.int .u16 co, .int .u8 jt, .int .u8 jf, .int .u32 k] 32)).alloc (.cells #[.int .u32 nr, .int .u32 arch, .int .u64 ip, .int .u64 a0, .int .u64 a1, .int .u64 a2, .int .u64 a3, .int .u64 a4, .int .u64 a5] 36)).alloc (.cells #[.int .u16 0, .int .u8 0, .int .u8 0, .int .u32 ce, .int .u16 2, .int .u8 0, .int .u8 0, .int .u32 (k % 16), .int .u16 1, .int .u8 0, .int .u8 0, .int .u32 x, .int .u16 0, .int .u8 0, .int .u8 0, .int .u32 a, .int .u16 co, .int .u8 jt, .int .u8 jf, .int .u32 k, .int .u16 3, .int .u8 0, .int .u8 0, .int .u32 15, .int .u16 22, .int .u8 0, .int .u8 0, .int .u32 0] 32) = w0 at *
  clear bp0
  go_loopw [11, 12] (fun sl it wr => ∃ (t n : Nat) (ps : List Ins) (A : Option Addr) (c : Nat), t ≤ 2 ∧ sl = .slice A n c ∧ it = .int .i64 t ∧ n = 7 + t ∧ ps.length = n ∧ (∀ j ∈ ps, j.ok) ∧ wr.ownsRow (w.heap.size + 2) 32 4 (.slice A n c) n (pc ps) ∧ Ext w wr ∧ Blk wr (w.heap.size + 1) 36 #[.int .u32 nr, .int .u32 arch, .int .u64 ip, .int .u64 a0, .int .u64 a1, .int .u64 a2, .int .u64 a3, .int .u64 a4, .int .u64 a5] ∧ w.heap.size + 2 ≤ wr.heap.size)
    (fun _ it _ => 2 - (intOf it).toNat)
  case atStart => exact ⟨0, 7, [⟨0, 0, 0, ce⟩, ⟨2, 0, 0, k % 16⟩, ⟨1, 0, 0, x⟩, ⟨0, 0, 0, a⟩, ⟨co, jt, jf, k⟩, ⟨3, 0, 0, 15⟩, ⟨22, 0, 0, 0⟩], _, 7, by omega, rfl, rfl, rfl, rfl, OKH.out, hr0, hx0, bd0, by omega⟩
  case round =>
    clear hx0 bd0 hr0 hz0 OKH
    obtain ⟨t, n, ps, A, c, ht, rfl, rfl, hn, hl, hok, hrow, hx, bd, hz⟩ := hrel
    by_cases h2 : t < 2
    · obtain ⟨g, rfl⟩ : ∃ g, A = some ⟨g, 0, none⟩ := by
        rcases hrow.2 with ⟨hv, hn0⟩ | ⟨g, cap, cur, hv, _⟩
        · omega
        · injection hv with e1
          exact ⟨g, e1⟩
      have n0 : (6 : Int) < n := by omega
      have n1 : (n : Int) ≤ 9 := by omega
      have t0 : (0 : Int) ≤ t := by omega
      have t1 : (t : Int) < 2 := by omega
      have H2' := Lib.hid (H2.out (some ⟨g, 0, none⟩) n c ps hl hok (by omega))
      have H4' := Lib.hid (H4.out (some ⟨g, 0, none⟩) n c ps hl hok (by omega))
      generalize runR dd ps = R at *
      obtain ⟨rx, rm, rt, re⟩ := R
      have s1 : (rx == rx) = true := by simp
      have s2 : (re == re) = true := by simp
      have hgb : w.heap.size + 2 ≤ g := (hrow.lt g rfl).1
      have HROW := Lib.hid hrow
      have HBD := Lib.hid bd
      have HX := Lib.hid hx
      have HH := Lib.hid (And.intro hl (And.intro hok (And.intro hz (And.intro hn h2))))
      clear hrow hx hl hok hz hn h2 ht
      have r0 := (bd).cell 0
      have r1 := (bd).cell 1
      have r2 := (bd).cell 2
      have r3 := (bd).cell 3
      have r4 := (bd).cell 4
      have r5 := (bd).cell 5
      have r6 := (bd).cell 6
      have r7 := (bd).cell 7
      have r8 := (bd).cell 8
      clear bd
      go_wp2_with fail
      clear r0 r1 r2 r3 r4 r5 r6 r7 r8
      refine (H2'.out _ (own_inM HROW.out)).mono ?_
      rintro e w1 ⟨rfl, hx1⟩
      have r0 := (HBD.out.ext hx1).cell 0
      have r1 := (HBD.out.ext hx1).cell 1
      have r2 := (HBD.out.ext hx1).cell 2
      have r3 := (HBD.out.ext hx1).cell 3
      have r4 := (HBD.out.ext hx1).cell 4
      have r5 := (HBD.out.ext hx1).cell 5
      have r6 := (HBD.out.ext hx1).cell 6
      have r7 := (HBD.out.ext hx1).cell 7
      have r8 := (HBD.out.ext hx1).cell 8
      go_wp2_with fail
      clear r0 r1 r2 r3 r4 r5 r6 r7 r8
      refine (H4'.out _ ((own_inM HROW.out).ext hx1)).mono ?_
      rintro e w2 ⟨L, cl, rfl, _, hx2⟩
      have hx3 := hx1.trans hx2
      have hlen := HH.out.1
      obtain ⟨cur, hbk, hfit, hput⟩ := own_insn (own_ext HROW.out hx3) (k := 6) (show 6 < ps.length from by omega) ⟨96, 0, 0, 15⟩
      have HPUT := Lib.hid hput
      have HFIT := Lib.hid hfit
      have HX3 := Lib.hid (HX.out.trans hx3)
      have HBD3 := Lib.hid (HBD.out.ext hx3)
      have HR3 := Lib.hid (own_ext HROW.out hx3)
      have HZ3 := Lib.hid (Nat.le_trans HH.out.2.2.1 hx3.size)
      clear hput hfit hlen hx1 hx2 hx3 H2' H4'
      have HNE := Lib.hid (show some (w.heap.size + 1) ≠ some g from fun e => by injection e with e; omega)
      have HNL := Lib.hid (show n + 1 ≤ 1000000 from by omega)
      go_wp2_with (first
        | (refine wpList_store_row rfl 32 (.tmp 68) (.tmp 67) rfl g 24 32 cur #[.int .u16 96, .int .u8 0, .int .u8 0, .int .u32 15] rfl rfl hbk HFIT.out (by kernel_rfl) (by simp [Value.oneCell']) ?_; intro w4 hb4 hg4; have HR4 := Lib.hid (HPUT.out w4 hb4); have HX4 := Lib.hid (HX3.out.grown hg4 (fun k e => by cases e; exact Nat.le_trans (Nat.le_add_right _ _) hgb)); have HBD4 := Lib.hid (HBD3.out.grown hg4 HNE.out); have HZ4 := Lib.hid (Nat.le_trans HZ3.out hg4.size); clear hb4 hg4; have HRA := Lib.hid (own_ext HR4.out ((Ext.refl w4).alloc (.cells #[.int .u16 22, .int .u8 0, .int .u8 0, .int .u32 0] 32))); have HZA := Lib.hid (show w.heap.size + 2 ≤ (w4.alloc (.cells #[.int .u16 22, .int .u8 0, .int .u8 0, .int .u32 0] 32)).heap.size from Nat.le_trans HZ4.out (by simp)))
        | (at_builtin; refine wpList_app rfl (.tmp 69) (.tmp 71) 37 rfl (w.heap.size + 2) 32 i0 _ 4 8 Try.underlying37 HI.out HZ0.out HZ1.out HZ2.out rfl (by decide) _ n c _ rfl HRA.out _ 1 1 (pc [⟨22, 0, 0, 0⟩]) rfl rfl (inM_new rfl) (pc_one _) HNL.out (by decide) HZA.out ?_; intro A2 c2 w5 ho2 hg2 hzz; have HOWN := Lib.hid ho2; have HG := Lib.hid hg2; clear ho2 hg2 hzz))
      go_roundw
      case rel =>
        obtain ⟨y1, y2, y3, y4, y5⟩ := HH.out
        refine ⟨t + 1, n + 1, ps.set 6 ⟨96, 0, 0, 15⟩ ++ [⟨22, 0, 0, 0⟩], A2, c2, by omega, rfl, by go_num, by omega, by simp; omega, fun j hj => ?_, ?_, (HX4.out.alloc _).app HRA.out (by omega) HG.out, grown_blk HRA.out HG.out (HBD4.out.alloc _) (by omega), Nat.le_trans HZA.out HG.out.size⟩
        · rcases List.mem_append.1 hj with h | h
          · rcases List.mem_or_eq_of_mem_set h with h | h
            · exact y2 j h
            · rw [h]; exact ⟨⟨by decide, by decide⟩, ⟨by decide, by decide⟩, ⟨by decide, by decide⟩, ⟨by decide, by decide⟩⟩
          · rw [List.mem_singleton.1 h]; exact ⟨⟨by decide, by decide⟩, ⟨by decide, by decide⟩, ⟨by decide, by decide⟩, ⟨by decide, by decide⟩⟩
        · rw [pc_append]; exact HOWN.out
      case measure => simp [intOf]; omega
    · obtain rfl : t = 2 := by omega
      go_wp2_with fail
      go_ret
      exact ⟨rfl, hx⟩
end Go.Proofs.Ytkejcfbhikpibaa
