import Derived.Test.YtjlhfmedaandeaaOne1
/- link.linker.one: what an instruction becomes. -/
namespace Go.Proofs.Ytjlhfmedaandeaa
open Go.RowKit Go.ChangeShapes Go.WideShapes
set_option linter.unusedVariables false
set_option linter.unusedSimpArgs false

/-- The linker's memory. -/
structure LK (gk gp n base : Nat) (bk : List Ins) (pl : List Int) (far : Int) (v : Value) (W : World) : Prop where
  k : Blk W gk 69 #[v, .slice (some ⟨gp, 0, none⟩) n n, .int .i64 far]
  r : W.ownsRow base 43 4 v bk.length (pc bk)
  q : Blk W gp 3 (nums .i64 pl).toArray
theorem LK.ext {gk gp n base : Nat} {bk : List Ins} {pl : List Int} {far : Int} {v : Value} {W W' : World} (h : LK gk gp n base bk pl far v W) (e : Ext W W') : LK gk gp n base bk pl far v W' := ⟨h.k.ext e, own_ext h.r e, h.q.ext e⟩
theorem LK.val {gk gp n base : Nat} {bk : List Ins} {pl : List Int} {far : Int} {v : Value} {W : World} (h : LK gk gp n base bk pl far v W) : ∃ A c, v = .slice A bk.length c := by
  rcases h.r.2 with ⟨hv, h0⟩ | ⟨g, cap, cur, hv, _⟩
  · exact ⟨none, 0, by rw [hv, h0]⟩
  · exact ⟨_, _, hv⟩
/-- What a step of the linker leaves. -/
structure LS (gk gp n base : Nat) (bk : List Ins) (pl : List Int) (far : Int) (v : Value) (W W' : World) : Prop where
  ex : ∃ v', LK gk gp n base bk pl far v' W' ∧ (v'.ownBlock = v.ownBlock ∨ ∀ b, v'.ownBlock = some b → W.heap.size ≤ b)
  pu : PU gk v.ownBlock W W'
theorem PU.of_ext {g : Nat} {ob : Option Nat} {W W' : World} (h : Ext W W') : PU g ob W W' := ⟨h.os, h.tape, h.output, h.size, fun b hb _ _ => h.block hb⟩
theorem PU.trans {g : Nat} {ob : Option Nat} {a b c : World} (h : PU g ob a b) (k : PU g ob b c) : PU g ob a c :=
  ⟨k.os.trans h.os, k.tape.trans h.tape, k.output.trans h.output, Nat.le_trans h.size k.size, fun x hx h1 h2 => (k.keep x (Nat.lt_of_lt_of_le hx h.size) h1 h2).trans (h.keep x hx h1 h2)⟩
theorem grown_set (U : World) (g i : Nat) (u : Value) : U.grownBy (U.setCell ⟨g, i, none⟩ u) (some g) := ⟨rfl, rfl, rfl, by simp, fun k _ h => Below.heap_setCell U ⟨g, i, none⟩ u k (fun e => h (by rw [e]))⟩
theorem PU.of_set (g i : Nat) (ob : Option Nat) (W : World) (u : Value) : PU g ob W (W.setCell ⟨g, i, none⟩ u) := ⟨rfl, rfl, rfl, by simp, fun b _ h _ => Below.heap_setCell W ⟨g, i, none⟩ u b h⟩
/-- put, from the linker's memory to the linker's memory. -/
theorem putLK (gk gp n base : Nat) (bk : List Ins) (pl : List Int) (far : Int) (v : Value) (W0 W : World) (xs : List Ins) (g m : Nat) (hm : xs.length = m) (hm3 : m ≤ 3) (hb : bk.length ≤ 500000) (hne : gp ≠ gk)
    (L : LK gk gp n base bk pl far v W) (hg : Blk W g 43 (pc xs).toArray) (hW : PU gk v.ownBlock W0 W) (hv : ∀ b, v.ownBlock = some b → b < W0.heap.size) (hgn : W0.heap.size ≤ g) (hgk : gk < W0.heap.size) (hbase : base ≤ W0.heap.size) :
    Calls Try.prog 81 #[.pointer (some ⟨gk, 0, none⟩), .slice (some ⟨g, 0, none⟩) m m] W fun e w' => (∃ u, e = .returned u) ∧ LS gk gp n base (bk ++ xs.reverse) pl far v W0 w' := by
  refine (callsIn_wide.1 (put_in gk _ far bk v base (some ⟨g, 0, none⟩) m m xs hm hm3 hb W (Nat.le_trans hbase hW.size) L.k L.r (InM.ofBlk hg rfl) (fun a e => by
    cases e
    exact ⟨hg.lt, by show g ≠ gk; omega, fun e => by have := hv g e; omega⟩))).mono ?_
  rintro e w' ⟨h1, v', h2, h3, h4, h5⟩
  have hq := (h4.keep gp L.q.lt hne (own_ne_blk L.r L.q (by decide))).trans L.q
  refine ⟨h1, ⟨v', ⟨h2, ?_, hq⟩, h5.imp id (fun q b hb => Nat.le_trans hW.size (q b hb))⟩, hW.trans h4⟩
  rw [List.length_append, List.length_reverse, hm]
  exact h3
set_option maxHeartbeats 4000000 in
set_option maxRecDepth 100000 in
theorem oneI (gk gp n base : Nat) (bk : List Ins) (pl : List Int) (far : Int) (v : Value) (W : World) (s : Sy) (a : Int) (ha : 0 ≤ a) (hs : s.ok) (hK : Kind s a n) (hpl : pl.length = n) (hn : n ≤ 131072) (hb : bk.length ≤ 400000) (hp : ∀ x ∈ pl, 0 ≤ x ∧ x ≤ bk.length)
    (hf : 0 ≤ far ∧ far ≤ 1000000) (hne : gp ≠ gk) (hbase : base ≤ W.heap.size) (L : LK gk gp n base bk pl far v W) :
    Calls Try.prog 64 #[.pointer (some ⟨gk, 0, none⟩), s.val] W fun e w' => (∃ u, e = .returned u) ∧ LS gk gp n base (bk ++ (oneL bk.length pl s).1.reverse) pl (far + (oneL bk.length pl s).2) v W w' := by
  have hv : ∀ b, v.ownBlock = some b → b < W.heap.size := fun b e => (L.r.lt b e).2
  have hgk := L.k.lt
  obtain ⟨vA, vc, rfl⟩ := L.val
  have hd : ∀ t : Int, 0 ≤ t → t < n → 0 ≤ dist bk.length pl t ∧ dist bk.length pl t ≤ 400000 := fun t h0 h1 => by
    have htp : t.toNat < pl.length := by omega
    have := hp _ (List.getElem_mem htp)
    unfold dist
    rw [List.getD_eq_getElem?_getD, List.getElem?_eq_getElem htp]
    simp only [Option.getD_some]
    omega
  have HD := Lib.hid (fun (t : Int) (h0 : 0 ≤ t) (h1 : t < n) (W' : World) (e : Ext W W') => by
    have h := distI gk gp n bk.length vc vA far pl hpl t.toNat (by omega) (by omega) (by omega) hp W' (L.ext e).k (L.ext e).q
    rw [Int.toNat_of_nonneg h0] at h
    exact h)
  have HL := Lib.hid L
  have hcl := kind_cls hK
  have HO := Lib.hid (fun W' => of_any s.code W')
  rw [hcl] at HO
  obtain ⟨R, hR⟩ : ∃ R, oneL bk.length pl s = R := ⟨_, rfl⟩
  rw [hR]
  have HR := Lib.hid hR
  have hk32 := hs.2.1
  obtain ⟨co, k, th, el⟩ := s
  unfold Sy.val Sy.cells
  dsimp only at *
  have hx := (Ext.refl W).alloc (.cells #[.int .u16 co, .int .u32 k, .int .i64 th, .int .i64 el] 32)
  have bs := Blk.new W 32 #[.int .u16 co, .int .u32 k, .int .i64 th, .int .i64 el]
  clear L hs hR hcl
  by_cases h5 : co = 5
  · subst h5
    obtain ⟨t0, t1⟩ : 0 ≤ th ∧ th < n := by
      rcases hK with ⟨h, _, _, _⟩ | ⟨h, _, _⟩ | ⟨h, _, _⟩ | ⟨h, _, _, h9⟩ | ⟨h, _, _⟩
      · cases h
      · cases h
      · cases h
      · dsimp only at h9; omega
      · rcases h with h | h | h | h <;> cases h
    have hR2 : R = ([⟨5, 0, 0, dist bk.length pl th⟩], 0) := by rw [← HR.out]; rfl
    obtain ⟨d0, d1⟩ := hd th t0 t1
    have HDT := Lib.hid (HD.out th t0 t1)
    rw [show (bk.length : Int) - pl.getD th.toNat 0 = dist bk.length pl th from rfl] at HDT
    clear hd HD HO hK
    generalize dist bk.length pl th = d at *
    have w1 : IntKind.u32.wrap d = d := IntWalk.u32_in _ (by omega)
    subst hR2
    go_enter Try.func64, Try.ntmps64
    go_wp2_with fail
    refine (HDT.out _ hx).mono ?_
    rintro e w1 ⟨rfl, hx1⟩
    have hxx := hx.trans hx1
    go_wp2_with fail
    refine (putLK gk gp n base bk pl far (.slice vA bk.length vc) W _ ([⟨5, 0, 0, d⟩]) (w1).heap.size 1 rfl (by omega) (by omega) hne (HL.out.ext ((hxx).alloc _)) (Blk.new w1 _ _) (PU.of_ext ((hxx).alloc _)) hv (hxx).size hgk hbase).mono ?_
    rintro e w9 ⟨⟨u9, rfl⟩, h9⟩
    go_wp2_with fail
    go_end0
    exact ⟨⟨_, rfl⟩, by rw [Int.add_zero]; exact h9⟩
  have e5 : (co == 5) = false := by simpa using h5
  rcases hA : asksC co with _ | _
  · obtain ⟨q, hq, hq4⟩ : ∃ q : Int, (if co = 32 then 1 else if co = 84 then 3 else if co = 6 then 5 else 4) = q ∧ (q != 4) = true := by
      rcases hK with ⟨h, _, _, _⟩ | ⟨h, _, _⟩ | ⟨h, _, _⟩ | ⟨h, _, _, h9⟩ | ⟨h, _, _⟩
      · exact ⟨1, by rw [if_pos h], rfl⟩
      · dsimp only at h; exact ⟨3, by rw [if_neg (by omega), if_pos h], rfl⟩
      · dsimp only at h; exact ⟨5, by rw [if_neg (by omega), if_neg (by omega), if_pos h], rfl⟩
      · exact absurd h h5
      · dsimp only at h; rcases h with h | h | h | h <;> rw [h] at hA <;> cases hA
    rw [hq] at HO
    have hR2 : R = ([⟨co, 0, 0, k⟩], 0) := by
      rw [← HR.out]
      unfold oneL
      rw [if_neg h5, if_pos hA]
    clear hd HD hK hq hA h5
    subst hR2
    go_enter Try.func64, Try.ntmps64
    go_wp2_with fail
    refine (HO.out _).mono ?_
    rintro e w1 ⟨rfl, hx1⟩
    have hxx := hx.trans hx1
    have bs1 := bs.ext hx1
    have s0 := (bs1).cell 0
    have s1 := (bs1).cell 1
    have s2 := (bs1).cell 2
    have s3 := (bs1).cell 3
    go_wp2_with fail
    clear s0 s1 s2 s3
    refine (putLK gk gp n base bk pl far (.slice vA bk.length vc) W _ ([⟨co, 0, 0, k⟩]) (w1).heap.size 1 rfl (by omega) (by omega) hne (HL.out.ext ((hxx).alloc _)) (Blk.new w1 _ _) (PU.of_ext ((hxx).alloc _)) hv (hxx).size hgk hbase).mono ?_
    rintro e w9 ⟨⟨u9, rfl⟩, h9⟩
    go_wp2_with fail
    go_end0
    exact ⟨⟨_, rfl⟩, by rw [Int.add_zero]; exact h9⟩
  · obtain ⟨hc4, t0, t1, l0, l1⟩ : (if co = 32 then (1 : Int) else if co = 84 then 3 else if co = 6 then 5 else 4) = 4 ∧ 0 ≤ th ∧ th < n ∧ 0 ≤ el ∧ el < n := by
      rcases hK with ⟨h, _, _, _⟩ | ⟨h, _, _⟩ | ⟨h, _, _⟩ | ⟨h, _, _, h9⟩ | ⟨h, h8, h9⟩
      · dsimp only at h; rw [h] at hA; cases hA
      · dsimp only at h; rw [h] at hA; cases hA
      · dsimp only at h; rw [h] at hA; cases hA
      · exact absurd h h5
      · dsimp only at h h8 h9
        exact ⟨by rw [if_neg (by omega), if_neg (by omega), if_neg (by omega)], by omega, by omega, by omega, by omega⟩
    rw [hc4] at HO
    obtain ⟨d0, d1⟩ := hd th t0 t1
    obtain ⟨b0, b1⟩ := hd el l0 l1
    have HDT := Lib.hid (HD.out th t0 t1)
    have HDE := Lib.hid (HD.out el l0 l1)
    rw [show (bk.length : Int) - pl.getD th.toNat 0 = dist bk.length pl th from rfl] at HDT
    rw [show (bk.length : Int) - pl.getD el.toNat 0 = dist bk.length pl el from rfl] at HDE
    have hR2 : R = if max (dist bk.length pl th) (dist bk.length pl el) ≤ 255 then ([⟨co, dist bk.length pl th, dist bk.length pl el, k⟩], 0) else ([⟨co, 0, 1, k⟩, ⟨5, 0, 0, dist bk.length pl th + 1⟩, ⟨5, 0, 0, dist bk.length pl el⟩], 1) := by
      rw [← HR.out]
      unfold oneL
      rw [if_neg h5, if_neg (by rw [hA]; decide)]
    clear hd HD hK hc4 hA h5 HR
    generalize dist bk.length pl th = da at *
    generalize dist bk.length pl el = db at *
    by_cases near : max da db ≤ 255
    · rw [if_pos near] at hR2
      have n1 : da ≤ 255 := by omega
      have n2 : db ≤ 255 := by omega
      have w8a : IntKind.u8.wrap da = da := IntWalk.u8_in _ (by omega)
      have w8b : IntKind.u8.wrap db = db := IntWalk.u8_in _ (by omega)
      subst hR2
      go_enter Try.func64, Try.ntmps64
      go_wp2_with fail
      refine (HO.out _).mono ?_
      rintro e w1 ⟨rfl, hx1⟩
      have hxx := hx.trans hx1
      have bs1 := bs.ext hx1
      have s0 := (bs1).cell 0
      have s1 := (bs1).cell 1
      have s2 := (bs1).cell 2
      have s3 := (bs1).cell 3
      go_wp2_with fail
      clear s0 s1 s2 s3
      refine wp_region_mono rfl [.is ?va0, .is ?va1, .is (.int .i64 th), .is (.int .i64 da), .is ?va4, .is ?va5, .is (.int .i64 el), .is (.int .i64 db), .is (.int .i64 da), .is (.int .i64 db)] (by kernel_rfl) (by kernel_rfl) ?Aa ?hAa ⟨?oa0, ?oa1, ?oa2, ?oa3, ?oa4, ?oa5, ?oa6, ?oa7, ?oa8, ?oa9, trivial⟩ ?fina
      case hAa => (intro x; simp only [fillOps, Act.put, List.setIfInBounds_toArray, List.set_cons_zero, List.set_cons_succ, Nat.reduceAdd]; rfl)
      case oa0 =>
        intro x U hU
        simp only [depV, One, dstOf, readDst, asBool, VP.is, VP.any, VP.row, VP.ptr, VP.blk, VP.ex, VP.and, VP.of, List.getD_cons_zero, List.getD_cons_succ]
        go_wp2_with (fail)
        refine done_mk ?_ rfl (Ext.refl _)
        rfl
      case oa1 =>
        intro x U hU
        simp only [depV, One, dstOf, readDst, asBool, VP.is, VP.any, VP.row, VP.ptr, VP.blk, VP.ex, VP.and, VP.of, List.getD_cons_zero, List.getD_cons_succ]
        go_wp2_with (fail)
        refine done_mk ?_ rfl (Ext.refl _)
        rfl
      case oa2 =>
        intro x U hU
        simp only [depV, One, dstOf, readDst, asBool, VP.is, VP.any, VP.row, VP.ptr, VP.blk, VP.ex, VP.and, VP.of, List.getD_cons_zero, List.getD_cons_succ]
        intro d1
        simp only [d1]
        have c0 := (bs1.ext hU).cell 2
        go_wp2_with (fail)
        refine done_mk ?_ rfl (Ext.refl _)
        rfl
      case oa3 =>
        intro x U hU
        simp only [depV, One, dstOf, readDst, asBool, VP.is, VP.any, VP.row, VP.ptr, VP.blk, VP.ex, VP.and, VP.of, List.getD_cons_zero, List.getD_cons_succ]
        intro d0
        intro d2
        simp only [d0, d2]
        go_wp2_with ((refine (HDT.out _ (hxx.trans hU)).mono ?_; rintro e w9 ⟨rfl, hx9⟩))
        refine done_mk ?_ rfl (hx9)
        rfl
      case oa4 =>
        intro x U hU
        simp only [depV, One, dstOf, readDst, asBool, VP.is, VP.any, VP.row, VP.ptr, VP.blk, VP.ex, VP.and, VP.of, List.getD_cons_zero, List.getD_cons_succ]
        go_wp2_with (fail)
        refine done_mk ?_ rfl (Ext.refl _)
        rfl
      case oa5 =>
        intro x U hU
        simp only [depV, One, dstOf, readDst, asBool, VP.is, VP.any, VP.row, VP.ptr, VP.blk, VP.ex, VP.and, VP.of, List.getD_cons_zero, List.getD_cons_succ]
        go_wp2_with (fail)
        refine done_mk ?_ rfl (Ext.refl _)
        rfl
      case oa6 =>
        intro x U hU
        simp only [depV, One, dstOf, readDst, asBool, VP.is, VP.any, VP.row, VP.ptr, VP.blk, VP.ex, VP.and, VP.of, List.getD_cons_zero, List.getD_cons_succ]
        intro d5
        simp only [d5]
        have c0 := (bs1.ext hU).cell 3
        go_wp2_with (fail)
        refine done_mk ?_ rfl (Ext.refl _)
        rfl
      case oa7 =>
        intro x U hU
        simp only [depV, One, dstOf, readDst, asBool, VP.is, VP.any, VP.row, VP.ptr, VP.blk, VP.ex, VP.and, VP.of, List.getD_cons_zero, List.getD_cons_succ]
        intro d4
        intro d6
        simp only [d4, d6]
        go_wp2_with ((refine (HDE.out _ (hxx.trans hU)).mono ?_; rintro e w9 ⟨rfl, hx9⟩))
        refine done_mk ?_ rfl (hx9)
        rfl
      case oa8 =>
        intro x U hU
        simp only [depV, One, dstOf, readDst, asBool, VP.is, VP.any, VP.row, VP.ptr, VP.blk, VP.ex, VP.and, VP.of, List.getD_cons_zero, List.getD_cons_succ]
        intro d3
        simp only [d3]
        go_wp2_with (fail)
        refine done_mk ?_ rfl (Ext.refl _)
        rfl
      case oa9 =>
        intro x U hU
        simp only [depV, One, dstOf, readDst, asBool, VP.is, VP.any, VP.row, VP.ptr, VP.blk, VP.ex, VP.and, VP.of, List.getD_cons_zero, List.getD_cons_succ]
        intro d7
        simp only [d7]
        go_wp2_with (fail)
        refine done_mk ?_ rfl (Ext.refl _)
        rfl
      case fina =>
        intro x U hU
        simp only [allV, depV, One, dstOf, readDst, asBool, VP.is, VP.any, VP.row, VP.ptr, VP.blk, VP.ex, VP.and, VP.of, List.getD_cons_zero, List.getD_cons_succ]
        intro d0
        intro d1
        intro d2
        intro d3
        intro d4
        intro d5
        intro d6
        intro d7
        intro d8
        intro d9
        simp only [d0, d1, d2, d3, d4, d5, d6, d7, d8, d9]
        clear d0 d1 d2 d3 d4 d5 d6 d7 d8 d9
        have hxu := hxx.trans hU
        have bsu := bs1.ext hU
        have ymax : decide (max da db ≤ 255) = true := by simp; omega
        have s0 := (bsu).cell 0
        have s1 := (bsu).cell 1
        have s2 := (bsu).cell 2
        have s3 := (bsu).cell 3
        go_wp2_with fail
        clear s0 s1 s2 s3
        refine (putLK gk gp n base bk pl far (.slice vA bk.length vc) W _ ([⟨co, da, db, k⟩]) (U).heap.size 1 rfl (by omega) (by omega) hne (HL.out.ext ((hxu).alloc _)) (Blk.new U _ _) (PU.of_ext ((hxu).alloc _)) hv (hxu).size hgk hbase).mono ?_
        rintro e w9 ⟨⟨u9, rfl⟩, h9⟩
        go_wp2_with fail
        refine bodyPost_ret (results_none rfl _ _ _) rfl ?_
        exact ⟨⟨_, rfl⟩, by rw [Int.add_zero]; exact h9⟩
    · rw [if_neg near] at hR2
      have w32a : IntKind.u32.wrap da = da := IntWalk.u32_in _ (by omega)
      have w32b : IntKind.u32.wrap db = db := IntWalk.u32_in _ (by omega)
      have w32c : IntKind.u32.wrap (da + 1) = da + 1 := IntWalk.u32_in _ (by omega)
      subst hR2
      go_enter Try.func64, Try.ntmps64
      go_wp2_with fail
      refine (HO.out _).mono ?_
      rintro e w1 ⟨rfl, hx1⟩
      have hxx := hx.trans hx1
      have bs1 := bs.ext hx1
      have s0 := (bs1).cell 0
      have s1 := (bs1).cell 1
      have s2 := (bs1).cell 2
      have s3 := (bs1).cell 3
      go_wp2_with fail
      clear s0 s1 s2 s3
      refine wp_region_mono rfl [.is ?vaq2r0, .is ?vaq2r1, .is (.int .i64 th), .is (.int .i64 da), .is ?vaq2r4, .is ?vaq2r5, .is (.int .i64 el), .is (.int .i64 db), .is (.int .i64 da), .is (.int .i64 db)] (by kernel_rfl) (by kernel_rfl) ?Aaq2r ?hAaq2r ⟨?oaq2r0, ?oaq2r1, ?oaq2r2, ?oaq2r3, ?oaq2r4, ?oaq2r5, ?oaq2r6, ?oaq2r7, ?oaq2r8, ?oaq2r9, trivial⟩ ?finaq2r
      case hAaq2r => (intro x; simp only [fillOps, Act.put, List.setIfInBounds_toArray, List.set_cons_zero, List.set_cons_succ, Nat.reduceAdd]; rfl)
      case oaq2r0 =>
        intro x U hU
        simp only [depV, One, dstOf, readDst, asBool, VP.is, VP.any, VP.row, VP.ptr, VP.blk, VP.ex, VP.and, VP.of, List.getD_cons_zero, List.getD_cons_succ]
        go_wp2_with (fail)
        refine done_mk ?_ rfl (Ext.refl _)
        rfl
      case oaq2r1 =>
        intro x U hU
        simp only [depV, One, dstOf, readDst, asBool, VP.is, VP.any, VP.row, VP.ptr, VP.blk, VP.ex, VP.and, VP.of, List.getD_cons_zero, List.getD_cons_succ]
        go_wp2_with (fail)
        refine done_mk ?_ rfl (Ext.refl _)
        rfl
      case oaq2r2 =>
        intro x U hU
        simp only [depV, One, dstOf, readDst, asBool, VP.is, VP.any, VP.row, VP.ptr, VP.blk, VP.ex, VP.and, VP.of, List.getD_cons_zero, List.getD_cons_succ]
        intro d1
        simp only [d1]
        have c0 := (bs1.ext hU).cell 2
        go_wp2_with (fail)
        refine done_mk ?_ rfl (Ext.refl _)
        rfl
      case oaq2r3 =>
        intro x U hU
        simp only [depV, One, dstOf, readDst, asBool, VP.is, VP.any, VP.row, VP.ptr, VP.blk, VP.ex, VP.and, VP.of, List.getD_cons_zero, List.getD_cons_succ]
        intro d0
        intro d2
        simp only [d0, d2]
        go_wp2_with ((refine (HDT.out _ (hxx.trans hU)).mono ?_; rintro e w9 ⟨rfl, hx9⟩))
        refine done_mk ?_ rfl (hx9)
        rfl
      case oaq2r4 =>
        intro x U hU
        simp only [depV, One, dstOf, readDst, asBool, VP.is, VP.any, VP.row, VP.ptr, VP.blk, VP.ex, VP.and, VP.of, List.getD_cons_zero, List.getD_cons_succ]
        go_wp2_with (fail)
        refine done_mk ?_ rfl (Ext.refl _)
        rfl
      case oaq2r5 =>
        intro x U hU
        simp only [depV, One, dstOf, readDst, asBool, VP.is, VP.any, VP.row, VP.ptr, VP.blk, VP.ex, VP.and, VP.of, List.getD_cons_zero, List.getD_cons_succ]
        go_wp2_with (fail)
        refine done_mk ?_ rfl (Ext.refl _)
        rfl
      case oaq2r6 =>
        intro x U hU
        simp only [depV, One, dstOf, readDst, asBool, VP.is, VP.any, VP.row, VP.ptr, VP.blk, VP.ex, VP.and, VP.of, List.getD_cons_zero, List.getD_cons_succ]
        intro d5
        simp only [d5]
        have c0 := (bs1.ext hU).cell 3
        go_wp2_with (fail)
        refine done_mk ?_ rfl (Ext.refl _)
        rfl
      case oaq2r7 =>
        intro x U hU
        simp only [depV, One, dstOf, readDst, asBool, VP.is, VP.any, VP.row, VP.ptr, VP.blk, VP.ex, VP.and, VP.of, List.getD_cons_zero, List.getD_cons_succ]
        intro d4
        intro d6
        simp only [d4, d6]
        go_wp2_with ((refine (HDE.out _ (hxx.trans hU)).mono ?_; rintro e w9 ⟨rfl, hx9⟩))
        refine done_mk ?_ rfl (hx9)
        rfl
      case oaq2r8 =>
        intro x U hU
        simp only [depV, One, dstOf, readDst, asBool, VP.is, VP.any, VP.row, VP.ptr, VP.blk, VP.ex, VP.and, VP.of, List.getD_cons_zero, List.getD_cons_succ]
        intro d3
        simp only [d3]
        go_wp2_with (fail)
        refine done_mk ?_ rfl (Ext.refl _)
        rfl
      case oaq2r9 =>
        intro x U hU
        simp only [depV, One, dstOf, readDst, asBool, VP.is, VP.any, VP.row, VP.ptr, VP.blk, VP.ex, VP.and, VP.of, List.getD_cons_zero, List.getD_cons_succ]
        intro d7
        simp only [d7]
        go_wp2_with (fail)
        refine done_mk ?_ rfl (Ext.refl _)
        rfl
      case finaq2r =>
        intro x U hU
        simp only [allV, depV, One, dstOf, readDst, asBool, VP.is, VP.any, VP.row, VP.ptr, VP.blk, VP.ex, VP.and, VP.of, List.getD_cons_zero, List.getD_cons_succ]
        intro d0
        intro d1
        intro d2
        intro d3
        intro d4
        intro d5
        intro d6
        intro d7
        intro d8
        intro d9
        simp only [d0, d1, d2, d3, d4, d5, d6, d7, d8, d9]
        clear d0 d1 d2 d3 d4 d5 d6 d7 d8 d9
        have hxu := hxx.trans hU
        have bsu := bs1.ext hU
        have ymax : decide (max da db ≤ 255) = false := by simp; omega
        have LU := HL.out.ext hxu
        have hkU := LU.k
        have g2 := hkU.cell 2
        have f2 := hkU.frozen 2
        have bs2 := bsu.far (p := ⟨gk, 2, none⟩) (by show W.heap.size ≠ gk; omega) (.int .i64 (far + 1))
        have L2 : LK gk gp n base bk pl (far + 1) (.slice vA bk.length vc) (U.setCell ⟨gk, 2, none⟩ (.int .i64 (far + 1))) :=
          ⟨hkU.set_ 2 _, LU.r.kept (grown_set U gk 2 _) (.inr (own_ne_blk LU.r hkU (by decide))), LU.q.far hne _⟩
        have HL2 := Lib.hid L2
        have hsz : W.heap.size ≤ (U.setCell ⟨gk, 2, none⟩ (.int .i64 (far + 1))).heap.size := by have := hxu.size; simpa using this
        clear LU hkU L2
        have s0 := (bs2).cell 0
        have s1 := (bs2).cell 1
        have s2 := (bs2).cell 2
        have s3 := (bs2).cell 3
        go_wp2_with fail
        clear s0 s1 s2 s3
        have hpu : PU gk (Value.slice vA bk.length vc).ownBlock W (U.setCell ⟨gk, 2, none⟩ (.int .i64 (far + 1))) := (PU.of_ext hxu).trans (PU.of_set gk 2 _ U _)
        have hsU : (U.setCell ⟨gk, 2, none⟩ (.int .i64 (far + 1))).heap.size = U.heap.size := by simp
        generalize U.setCell ⟨gk, 2, none⟩ (.int .i64 (far + 1)) = U2 at *
        have hb3 : Blk (U2.alloc (.cells #[.int .u16 co, .int .u8 0, .int .u8 1, .int .u32 k, .int .u16 5, .int .u8 0, .int .u8 0, .int .u32 (da + 1), .int .u16 5, .int .u8 0, .int .u8 0, .int .u32 db] 43)) U.heap.size 43 (pc [⟨co, 0, 1, k⟩, ⟨5, 0, 0, da + 1⟩, ⟨5, 0, 0, db⟩]).toArray := by rw [← hsU]; exact Blk.new _ _ _
        have hE3 := (Ext.refl U2).alloc (.cells #[.int .u16 co, .int .u8 0, .int .u8 1, .int .u32 k, .int .u16 5, .int .u8 0, .int .u8 0, .int .u32 (da + 1), .int .u16 5, .int .u8 0, .int .u8 0, .int .u32 db] 43)
        refine (putLK gk gp n base bk pl (far + 1) (.slice vA bk.length vc) W _ [⟨co, 0, 1, k⟩, ⟨5, 0, 0, da + 1⟩, ⟨5, 0, 0, db⟩] U.heap.size 3 rfl (by omega) (by omega) hne (HL2.out.ext hE3) hb3 (hpu.trans (PU.of_ext hE3)) hv hxu.size hgk hbase).mono ?_
        clear hsU hb3
        rintro e w9 ⟨⟨u9, rfl⟩, h9⟩
        go_wp2_with fail
        go_end0
        exact ⟨⟨_, rfl⟩, h9⟩
end Go.Proofs.Ytjlhfmedaandeaa
