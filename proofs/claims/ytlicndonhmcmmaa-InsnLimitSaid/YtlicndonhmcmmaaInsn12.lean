import Derived.Test.YtlicndonhmcmmaaInsn11
import Derived.Test.YtlicndonhmcmmaaMono
import Derived.Test.YtlicndonhmcmmaaWalkWords2
namespace Go.Proofs.Ytlicndonhmcmmaa
open Go.RowKit Go.ChangeShapes Go.WideShapes
set_option linter.unusedVariables false
set_option linter.unusedSimpArgs false
/-- An instruction whose numbers fit. -/
def Ins.ok (i : Ins) : Prop := (0 ≤ i.code ∧ i.code < 256 ^ 2) ∧ (0 ≤ i.jt ∧ i.jt < 256) ∧ (0 ≤ i.jf ∧ i.jf < 256) ∧ (0 ≤ i.k ∧ i.k < 256 ^ 4)
def Ins.bytes (i : Ins) : List Int := leB 2 i.code ++ [i.jt, i.jf] ++ leB 4 i.k
theorem cat3 (L A B D : Option Addr) (n c m d k q : Nat) (xs ys zs : List Int) (w : World) (hM : InM w L [.slice A n c, .slice B m d, .slice D k q]) (hx : xs.length = n) (hy : ys.length = m) (hz : zs.length = k)
    (h1 : InM w A (nums .u8 xs)) (h2 : InM w B (nums .u8 ys)) (h3 : InM w D (nums .u8 zs)) (hb : n + m + k ≤ 1000000) :
    Calls Try.prog 45 #[.slice L 3 3] w fun e w' => ∃ C c', e = .returned (.slice C (n + m + k) c') ∧ w'.ownsRow w.heap.size 5 1 (.slice C (n + m + k) c') (n + m + k) (nums .u8 (xs ++ ys ++ zs)) ∧ Ext w w' :=
  (cat_any L 3 3 [⟨A, n, c, xs⟩, ⟨B, m, d, ys⟩, ⟨D, k, q, zs⟩] w rfl hM (fun s hs => by
    simp only [List.mem_cons, List.not_mem_nil, or_false] at hs
    rcases hs with rfl | rfl | rfl
    · exact ⟨hx, h1⟩
    · exact ⟨hy, h2⟩
    · exact ⟨hz, h3⟩) (by simp [tot]; omega) (by omega)).mono fun e w' ⟨C, c', he, ho, hx⟩ => by
    have e1 : tot [⟨A, n, c, xs⟩, ⟨B, m, d, ys⟩, ⟨D, k, q, zs⟩] = n + m + k := by simp [tot]; omega
    have e2 : flat [⟨A, n, c, xs⟩, ⟨B, m, d, ys⟩, ⟨D, k, q, zs⟩] = xs ++ ys ++ zs := by simp [flat]
    rw [e1, e2] at ho
    rw [e1] at he
    exact ⟨C, c', he, ho, hx⟩
theorem own_lower {w : World} {base base' : Nat} {e : TypeId} {size n : Nat} {v : Value} {xs : List Value} (h : w.ownsRow base e size v n xs) (hb : base' ≤ base) : w.ownsRow base' e size v n xs := by
  refine ⟨h.1, ?_⟩
  rcases h.2 with h | ⟨g, cap, cur, h1, h2, h3⟩
  · exact .inl h
  · exact .inr ⟨g, cap, cur, h1, Nat.le_trans hb h2, h3⟩
/-- A slice that owns its row. -/
def VP.own (base : Nat) (t : TypeId) (size n : Nat) (xs : List Value) : VP := ⟨fun v w => ∃ A c, v = .slice A n c ∧ w.ownsRow base t size (.slice A n c) n xs, fun _ _ _ ⟨A, c, h, k⟩ e => ⟨A, c, h, own_ext k e⟩⟩
def VP.cat3 (n m k : Nat) (xs ys zs : List Int) : VP := ⟨fun v w => ∃ L A c B d D q, v = .slice L 3 3 ∧ InM w L [.slice A n c, .slice B m d, .slice D k q] ∧ InM w A (nums .u8 xs) ∧ InM w B (nums .u8 ys) ∧ InM w D (nums .u8 zs),
  fun _ _ _ ⟨L, A, c, B, d, D, q, h, h0, h1, h2, h3⟩ e => ⟨L, A, c, B, d, D, q, h, h0.ext e, h1.ext e, h2.ext e, h3.ext e⟩⟩
set_option maxRecDepth 100000 in
theorem encode_any (i : Ins) (h : i.ok) (W : World) : Calls Try.prog 54 #[i.val] W fun e w' => ∃ A c', e = .returned (.slice A 8 c') ∧ w'.ownsRow W.heap.size 5 1 (.slice A 8 c') 8 (nums .u8 i.bytes) ∧ Ext W w' := by
  obtain ⟨⟨c0, c1⟩, ⟨j0, j1⟩, ⟨f0, f1⟩, ⟨k0, k1⟩⟩ := h
  obtain ⟨co, jt, jf, k⟩ := i
  dsimp only at c0 c1 j0 j1 f0 f1 k0 k1
  have B := (Blk.new W 73 #[.int .u16 co, .int .u8 jt, .int .u8 jf, .int .u32 k])
  have hx0 := ((Ext.refl W).alloc (.cells #[.int .u16 co, .int .u8 jt, .int .u8 jf, .int .u32 k] 73))
  have P1 := Lib.hid (fun W => put16_own co W c0 c1)
  have P2 := Lib.hid (fun W => put32_own k W k0 k1)
  unfold Ins.val Ins.cells Ins.bytes
  dsimp only
  go_enter Try.func54, Try.ntmps54
  go_wp2_with fail
  generalize W.alloc (.cells #[.int .u16 co, .int .u8 jt, .int .u8 jf, .int .u32 k] 73) = W0 at *
  have HB := Lib.hid B
  clear B
  refine wp_region_mono rfl [.is ?va0, .is ?va1, .row 2 (nums .u8 (leB 2 co)), .is ?va3, .is ?va4, .is ?va5, .is ?va6, .row 2 [.int .u8 jt, .int .u8 jf], .is ?va8, .is ?va9, .row 4 (nums .u8 (leB 4 k)), .cat3 2 2 4 (leB 2 co) [jt, jf] (leB 4 k), .own W.heap.size 5 1 8 (nums .u8 (leB 2 co ++ [jt, jf] ++ leB 4 k)), .own W.heap.size 5 1 8 (nums .u8 (leB 2 co ++ [jt, jf] ++ leB 4 k))] (by kernel_rfl) (by kernel_rfl) ?Aa ?hAa ⟨?oa0, ?oa1, ?oa2, ?oa3, ?oa4, ?oa5, ?oa6, ?oa7, ?oa8, ?oa9, ?oa10, ?oa11, ?oa12, ?oa13, trivial⟩ ?fina
  case hAa => (intro x; simp only [fillOps, Act.put, List.setIfInBounds_toArray, List.set_cons_zero, List.set_cons_succ, Nat.reduceAdd]; rfl)
  case oa0 =>
    intro x U hU
    simp only [depV, One, dstOf, readDst, asBool, VP.is, VP.any, VP.row, VP.ptr, VP.blk, VP.ex, VP.and, VP.of, List.getD_cons_zero, List.getD_cons_succ, VP.cat3, VP.own]
    go_wp2_with (fail)
    refine done_mk ?_ rfl (Ext.refl _)
    rfl
  case oa1 =>
    intro x U hU
    simp only [depV, One, dstOf, readDst, asBool, VP.is, VP.any, VP.row, VP.ptr, VP.blk, VP.ex, VP.and, VP.of, List.getD_cons_zero, List.getD_cons_succ, VP.cat3, VP.own]
    intro d0
    simp only [d0]
    have hc := (HB.out.ext hU).cell 0
    go_wp2_with (fail)
    refine done_mk ?_ rfl (Ext.refl _)
    rfl
  case oa2 =>
    intro x U hU
    simp only [depV, One, dstOf, readDst, asBool, VP.is, VP.any, VP.row, VP.ptr, VP.blk, VP.ex, VP.and, VP.of, List.getD_cons_zero, List.getD_cons_succ, VP.cat3, VP.own]
    intro d1
    simp only [d1]
    go_wp2_with ((refine (P1.out _).mono ?_; rintro e w1 ⟨rfl, hm, hx⟩))
    refine done_mk ?_ rfl (hx)
    exact ⟨_, _, rfl, hm⟩
  case oa3 =>
    intro x U hU
    simp only [depV, One, dstOf, readDst, asBool, VP.is, VP.any, VP.row, VP.ptr, VP.blk, VP.ex, VP.and, VP.of, List.getD_cons_zero, List.getD_cons_succ, VP.cat3, VP.own]
    go_wp2_with (fail)
    refine done_mk ?_ rfl (Ext.refl _)
    rfl
  case oa4 =>
    intro x U hU
    simp only [depV, One, dstOf, readDst, asBool, VP.is, VP.any, VP.row, VP.ptr, VP.blk, VP.ex, VP.and, VP.of, List.getD_cons_zero, List.getD_cons_succ, VP.cat3, VP.own]
    intro d3
    simp only [d3]
    have hc := (HB.out.ext hU).cell 1
    go_wp2_with (fail)
    refine done_mk ?_ rfl (Ext.refl _)
    rfl
  case oa5 =>
    intro x U hU
    simp only [depV, One, dstOf, readDst, asBool, VP.is, VP.any, VP.row, VP.ptr, VP.blk, VP.ex, VP.and, VP.of, List.getD_cons_zero, List.getD_cons_succ, VP.cat3, VP.own]
    go_wp2_with (fail)
    refine done_mk ?_ rfl (Ext.refl _)
    rfl
  case oa6 =>
    intro x U hU
    simp only [depV, One, dstOf, readDst, asBool, VP.is, VP.any, VP.row, VP.ptr, VP.blk, VP.ex, VP.and, VP.of, List.getD_cons_zero, List.getD_cons_succ, VP.cat3, VP.own]
    intro d5
    simp only [d5]
    have hc := (HB.out.ext hU).cell 2
    go_wp2_with (fail)
    refine done_mk ?_ rfl (Ext.refl _)
    rfl
  case oa7 =>
    intro x U hU
    simp only [depV, One, dstOf, readDst, asBool, VP.is, VP.any, VP.row, VP.ptr, VP.blk, VP.ex, VP.and, VP.of, List.getD_cons_zero, List.getD_cons_succ, VP.cat3, VP.own]
    intro d4
    intro d6
    simp only [d4, d6]
    go_wp2_with (fail)
    refine done_mk ?_ rfl ((Ext.refl _).alloc _)
    exact ⟨_, _, rfl, inM_new rfl⟩
  case oa8 =>
    intro x U hU
    simp only [depV, One, dstOf, readDst, asBool, VP.is, VP.any, VP.row, VP.ptr, VP.blk, VP.ex, VP.and, VP.of, List.getD_cons_zero, List.getD_cons_succ, VP.cat3, VP.own]
    go_wp2_with (fail)
    refine done_mk ?_ rfl (Ext.refl _)
    rfl
  case oa9 =>
    intro x U hU
    simp only [depV, One, dstOf, readDst, asBool, VP.is, VP.any, VP.row, VP.ptr, VP.blk, VP.ex, VP.and, VP.of, List.getD_cons_zero, List.getD_cons_succ, VP.cat3, VP.own]
    intro d8
    simp only [d8]
    have hc := (HB.out.ext hU).cell 3
    go_wp2_with (fail)
    refine done_mk ?_ rfl (Ext.refl _)
    rfl
  case oa10 =>
    intro x U hU
    simp only [depV, One, dstOf, readDst, asBool, VP.is, VP.any, VP.row, VP.ptr, VP.blk, VP.ex, VP.and, VP.of, List.getD_cons_zero, List.getD_cons_succ, VP.cat3, VP.own]
    intro d9
    simp only [d9]
    go_wp2_with ((refine (P2.out _).mono ?_; rintro e w1 ⟨rfl, hm, hx⟩))
    refine done_mk ?_ rfl (hx)
    exact ⟨_, _, rfl, hm⟩
  case oa11 =>
    intro x U hU
    simp only [depV, One, dstOf, readDst, asBool, VP.is, VP.any, VP.row, VP.ptr, VP.blk, VP.ex, VP.and, VP.of, List.getD_cons_zero, List.getD_cons_succ, VP.cat3, VP.own]
    rintro ⟨A2, c2, d2, m2⟩
    rintro ⟨A7, c7, d7, m7⟩
    rintro ⟨A10, c10, d10, m10⟩
    simp only [d2, d7, d10]
    go_wp2_with (fail)
    refine done_mk ?_ rfl ((Ext.refl _).alloc _)
    exact ⟨_, _, _, _, _, _, _, rfl, inM_new rfl, m2.ext ((Ext.refl _).alloc _), m7.ext ((Ext.refl _).alloc _), m10.ext ((Ext.refl _).alloc _)⟩
  case oa12 =>
    intro x U hU
    simp only [depV, One, dstOf, readDst, asBool, VP.is, VP.any, VP.row, VP.ptr, VP.blk, VP.ex, VP.and, VP.of, List.getD_cons_zero, List.getD_cons_succ, VP.cat3, VP.own]
    rintro ⟨A11, A2, c2, A7, c7, A10, c10, d11, m11, m2, m7, m10⟩
    simp only [d11]
    go_wp2_with ((refine (cat3 A11 A2 A7 A10 2 c2 2 c7 4 c10 (leB 2 co) [jt, jf] (leB 4 k) _ m11 (leB_length _ _) rfl (leB_length _ _) m2 m7 m10 (by decide)).mono ?_; rintro e w1 ⟨C, c', rfl, hm, hx⟩))
    refine done_mk ?_ rfl (hx)
    exact ⟨_, _, rfl, own_lower hm (hx0.trans hU).size⟩
  case oa13 =>
    intro x U hU
    simp only [depV, One, dstOf, readDst, asBool, VP.is, VP.any, VP.row, VP.ptr, VP.blk, VP.ex, VP.and, VP.of, List.getD_cons_zero, List.getD_cons_succ, VP.cat3, VP.own]
    rintro ⟨A12, c12, d12, m12⟩
    simp only [d12]
    go_wp2_with (fail)
    refine done_mk ?_ rfl (Ext.refl _)
    exact ⟨_, _, rfl, m12⟩
  case fina =>
    intro x U hU
    simp only [allV, depV, One, dstOf, readDst, asBool, VP.is, VP.any, VP.row, VP.ptr, VP.blk, VP.ex, VP.and, VP.of, List.getD_cons_zero, List.getD_cons_succ, VP.cat3, VP.own]
    intro d0
    intro d1
    rintro ⟨A2, c2, d2, m2⟩
    intro d3
    intro d4
    intro d5
    intro d6
    rintro ⟨A7, c7, d7, m7⟩
    intro d8
    intro d9
    rintro ⟨A10, c10, d10, m10⟩
    rintro ⟨A11, A2, c2, A7, c7, A10, c10, d11, m11, m2, m7, m10⟩
    rintro ⟨A12, c12, d12, m12⟩
    rintro ⟨A13, c13, d13, m13⟩
    simp only [d0, d1, d2, d3, d4, d5, d6, d7, d8, d9, d10, d11, d12, d13]
    clear d0 d1 d2 d3 d4 d5 d6 d7 d8 d9 d10 d11 d12 d13
    go_wp2
    go_ret
    exact ⟨_, _, rfl, m13, hx0.trans hU⟩
end Go.Proofs.Ytlicndonhmcmmaa
