import Derived.Test.YtjlhfmedaandeaaThread1
import Derived.Laws.EntriesVeiled
/- opt.threaded: the walk. -/
namespace Go.Proofs.Ytjlhfmedaandeaa
open Go.RowKit Go.ChangeShapes Go.WideShapes
set_option linter.unusedVariables false
set_option linter.unusedSimpArgs false
attribute [local go_sem] Oper.semAt_some

def thrF (A : Option Addr) (n c z1 g c' gs ix : Nat) (co kk th el : Int) : Act :=
  { tmps := #[.slice A n c, undef, .slice none 0 0, .pointer (some ⟨z1, 0, none⟩), .pointer (some ⟨z1 + 1, 0, none⟩), .int .i64 ix, .pointer (some ⟨gs, 0, none⟩), .slice A n c, .slice (some ⟨g, 0, none⟩) n c', .func (.func 68) #[] #[.pointer (some ⟨z1, 0, none⟩)], .slice A n c, .func (.func 80) #[] #[.pointer (some ⟨z1 + 1 + 1, 0, none⟩)], .int .i64 ix, .agg #[.int .u16 co, .int .u32 kk, .int .i64 th, .int .i64 el], undef, undef, undef, undef, undef, undef, undef, undef, undef, undef, undef, undef, undef, undef, undef, undef, undef, undef, undef, undef, undef, undef, undef, undef, undef, undef, undef, undef, undef], defers := [] }
def ThrA (A : Option Addr) (n c z1 g c' : Nat) (ps : List Sy) (x z0 : Nat) (a1 : Act) (W : World) : Prop :=
  ∃ gs co kk th el, z0 ≤ gs ∧ ps.getD x zeroS = ⟨co, kk, th, el⟩ ∧ a1 = thrF A n c z1 g c' gs x co kk th el ∧ Blk W gs 32 #[.int .u16 co, .int .u32 kk, .int .i64 th, .int .i64 el]
structure ThrI (w : World) (A : Option Addr) (n c z1 g c' : Nat) (ps : List Sy) (more : List Value) (pre : List Nat) (W : World) : Prop where
  q : Blk W g 32 (sc (threadUp ps pre) ++ more).toArray
  b3 : Blk W z1 22 #[.slice (some ⟨g, 0, none⟩) n c']
  b4 : Blk W (z1 + 1) 97 #[.func (.func 68) #[] #[.pointer (some ⟨z1, 0, none⟩)]]
  b5 : Blk W (z1 + 1 + 1) 22 #[.slice A n c]
  ext : Ext w W
  z : z1 + 3 ≤ W.heap.size
theorem ThrI_own (w : World) (A : Option Addr) (n c z1 g c' : Nat) (hz : w.heap.size ≤ z1) (ps : List Sy) (more : List Value) : OwnFrom (z1 + 3) (ThrI w A n c z1 g c' ps more) := fun pre W W' row h hg hr => by
  have hn : ∀ r, row = some r → ∃ o : Obj, W.heap[r]? = some o ∧ o.isCells = false := fun r e => (hr r e).2
  exact ⟨blk_noncells h.q hg hn, blk_noncells h.b3 hg hn, blk_noncells h.b4 hg hn, blk_noncells h.b5 hg hn, h.ext.grown hg (fun r e => by have := (hr r e).1; omega), Nat.le_trans h.z hg.size⟩
theorem threadUp_len (ps : List Sy) : ∀ (pre : List Nat) (q : List Sy), (pre.foldl (thrStep ps) q).length = q.length
  | [], q => rfl
  | i :: pre, q => by rw [List.foldl_cons, threadUp_len ps pre]; unfold thrStep; rw [List.length_set]
theorem kind_mv {s : Sy} {a n : Int} (f : Int → Int) (h : Kind s a n) : ∃ a' n', Kind (mv f s) a' n' := by
  rcases h with ⟨h1, h2, h3, h4⟩ | ⟨h1, h2, h3⟩ | ⟨h1, h2, h3⟩ | ⟨h1, h4, h3, h2⟩ | ⟨h1, h2, h3⟩
  · rw [mv_none f (.inl h1)]; exact ⟨0, 0, .ld h1 h2 h3 h4⟩
  · rw [mv_none f (.inr (.inl h1))]; exact ⟨0, 0, .an h1 h2 h3⟩
  · rw [mv_none f (.inr (.inr h1))]; exact ⟨0, 0, .re h1 h2 h3⟩
  · rw [mv_ja f h1]; exact ⟨f s.th - 1, f s.th + 1, .ja h1 h4 h3 ⟨by dsimp only; omega, by dsimp only; omega⟩⟩
  · rw [mv_asks f (asks_code.2 h1)]
    exact ⟨min (f s.th) (f s.el) - 1, max (f s.th) (f s.el) + 1, .as h1 ⟨by dsimp only; omega, by dsimp only; omega⟩ ⟨by dsimp only; omega, by dsimp only; omega⟩⟩
theorem keeps_grown {W W' : World} {g : Nat} {T : TypeId} {cs : Array Value} (hg : W.grownBy W' (some g)) (hb : Blk W g T cs) (B : Nat) : KeepsFrom B W W' :=
  KeepsOthers.from (KeepsOthers.of_grownBy hg (fun j o e h => by
    injection e with e
    subst e
    unfold Blk at hb
    rw [hb] at h
    injection h with h
    subst h
    rfl)) B
theorem keeps_ext {W W' : World} (h : Ext W W') (B : Nat) : KeepsFrom B W W' := KeepsOthers.from ⟨h.size, fun k o hk _ => (h.block (Array.getElem?_eq_some_iff.1 hk).1).trans hk⟩ B
set_option maxHeartbeats 4000000 in
set_option maxRecDepth 100000 in
theorem threaded_in (b o n c : Nat) (ps : List Sy) (w : World) (hp : ps.length = n) (hY : MayL ps) (hM : InM w (some ⟨b, o, none⟩) (sc ps)) :
    CallsIn .wide 3 Try.prog 50 #[.slice (some ⟨b, o, none⟩) n c] w fun e w' => ∃ g c' more, e = .returned (.slice (some ⟨g, 0, none⟩) n c') ∧ Blk w' g 32 (sc (threadL ps) ++ more).toArray ∧ w.heap.size ≤ g ∧ Ext w w' := by
  have n1 : 1 ≤ n := by have := hY.l1; omega
  have hn : n ≤ 131072 := by have := hY.l2; omega
  have HP := Lib.hid hp
  have HC := Lib.hid (cloneS b o n c ps w hp n1 hn hM)
  have HMEM := Lib.hid hM
  have HTL := Lib.hid (show threadL ps = threadUp ps (List.range n).reverse from by unfold threadL; rw [hp])
  clear hp hM
  refine callsIn_of_wp_marks Try.func50 rfl trivial ?_ rfl
  simp only [Try.ntmps50, List.size_toArray, List.length_cons, List.length_nil, Nat.reduceAdd, Nat.reduceSub, Array.replicate_succ, Array.replicate_zero, List.push_toArray, List.append_toArray, List.nil_append, List.cons_append]
  gi_wp2_with (first
    | (refine ⟨trivial, ?_⟩; gi_at_call 67; refine ((callsIn_wide (n := 2)).2 HC.out).mono ?_; rintro e w1 ⟨g, c', more, rfl, hb1, hg1, hx1⟩)
    | (refine ⟨trivial, ?_⟩; gi_at_call 63; refine (backS_in (some ⟨b, o, none⟩) n c _).mono ?_; rintro e w' ⟨rfl, rfl⟩))
  generalize hz1 : w1.heap.size = z1 at *
  have hB3 : Blk (((w1.alloc (.cells #[.slice (some ⟨g, 0, none⟩) n c'] 22)).alloc (.cells #[.func (.func 68) #[] #[.pointer (some ⟨z1, 0, none⟩)]] 97)).alloc (.cells #[.slice (some ⟨b, o, none⟩) n c] 22)) z1 22 #[.slice (some ⟨g, 0, none⟩) n c'] := ((Blk.new_ hz1.symm).alloc _).alloc _
  have hB4 : Blk (((w1.alloc (.cells #[.slice (some ⟨g, 0, none⟩) n c'] 22)).alloc (.cells #[.func (.func 68) #[] #[.pointer (some ⟨z1, 0, none⟩)]] 97)).alloc (.cells #[.slice (some ⟨b, o, none⟩) n c] 22)) (z1 + 1) 97 #[.func (.func 68) #[] #[.pointer (some ⟨z1, 0, none⟩)]] := (Blk.new_ (by simp [hz1])).alloc _
  have hB5 : Blk (((w1.alloc (.cells #[.slice (some ⟨g, 0, none⟩) n c'] 22)).alloc (.cells #[.func (.func 68) #[] #[.pointer (some ⟨z1, 0, none⟩)]] 97)).alloc (.cells #[.slice (some ⟨b, o, none⟩) n c] 22)) (z1 + 1 + 1) 22 #[.slice (some ⟨b, o, none⟩) n c] := Blk.new_ (by simp [hz1])
  have hE1 : Ext w1 (((w1.alloc (.cells #[.slice (some ⟨g, 0, none⟩) n c'] 22)).alloc (.cells #[.func (.func 68) #[] #[.pointer (some ⟨z1, 0, none⟩)]] 97)).alloc (.cells #[.slice (some ⟨b, o, none⟩) n c] 22)) := (((Ext.refl w1).alloc _).alloc _).alloc _
  have hz4 : (((w1.alloc (.cells #[.slice (some ⟨g, 0, none⟩) n c'] 22)).alloc (.cells #[.func (.func 68) #[] #[.pointer (some ⟨z1, 0, none⟩)]] 97)).alloc (.cells #[.slice (some ⟨b, o, none⟩) n c] 22)).heap.size = z1 + 3 := by simp [hz1]
  generalize ((w1.alloc (.cells #[.slice (some ⟨g, 0, none⟩) n c'] 22)).alloc (.cells #[.func (.func 68) #[] #[.pointer (some ⟨z1, 0, none⟩)]] 97)).alloc (.cells #[.slice (some ⟨b, o, none⟩) n c] 22) = w0 at *
  have hM0 : InM w0 (some ⟨b, o, none⟩) (sc ps) := (HMEM.out.ext hx1).ext hE1
  have hgz : g < z1 := by have := hb1.lt; omega
  have hwz : w.heap.size ≤ z1 := by have := hx1.size; omega
  refine rangeFunc_tellsA rfl (by decide) (gf := 80) (lb := #[.pointer (some ⟨z1 + 1 + 1, 0, none⟩)]) rfl trivial (enters_of Try.func80 (by kernel_rfl) rfl)
    (backS_tells (z1 + 1 + 1) n c (some ⟨b, o, none⟩) ps HP.out (by omega) w0 hB5.lt (by rw [hB5.cell]; rfl) hM0) (fun h k => h.trans k)
    (fun W l o o' _ hl hc _ => ⟨fun hv => cell_kept hv (grownBy_putObj' W l o') (fun r e => by cases e; exact ⟨o, hl, hc⟩), fun hv j u hu => by
      obtain ⟨b, off, e, hcc⟩ := hv j u hu
      exact ⟨b, off, e, cell_kept hcc (grownBy_putObj' W l o') (fun r e => by cases e; exact ⟨o, hl, hc⟩)⟩⟩) (Below.refl _ _) (fun _ => rfl)
    (fun x W l o o' hG _ _ => hG)
    (ThrI w (some ⟨b, o, none⟩) n c z1 g c' ps more) (by rw [hz4]; exact ThrI_own w (some ⟨b, o, none⟩) n c z1 g c' hwz ps more)
    ⟨hb1.ext hE1, hB3, hB4, hB5, hx1.trans hE1, by omega⟩
    (ThrA (some ⟨b, o, none⟩) n c z1 g c' ps)
    (fun x z0 a1 W l o o' ⟨g, co, jt, jf, kk, h1, h2, h3, h4⟩ hl hc => ⟨g, co, jt, jf, kk, h1, h2, h3, blk_noncells h4 (grownBy_putObj' W l o') (fun r e => by cases e; exact ⟨o, hl, hc⟩)⟩)
    (fun _ _ _ h _ => h) (fun W W' e => ⟨fun h => e.cell h, fun h => h.ext e⟩) ?assign ?body ?done
  case assign =>
    intro l x W K hG hK
    obtain ⟨⟨co, kk, th, el⟩, hE⟩ : ∃ E, ps.getD x zeroS = E := ⟨_, rfl⟩
    simp only [hE, Sy.val, Sy.cells]
    gi_wp2
    exact hK _ _ ((Ext.refl W).alloc _) ⟨W.heap.size, co, kk, th, el, Nat.le_refl _, hE, rfl, Blk.new _ _ _⟩
  case body =>
    rintro l pre ix W0 W a1 hI0 hI hxm ⟨gs, co, kk, th, el, hzg, hE, rfl, hbs⟩ _ hlt
    have hixp : ix < ps.length := by rw [HP.out]; exact hxm
    have hK := kind_of (hY.one ix hixp)
    rw [hE, HP.out] at hK
    have hql : (threadUp ps pre).length = n := (threadUp_len ps pre ps).trans HP.out
    have hsn : threadUp ps (pre ++ [ix]) = (threadUp ps pre).set ix (thr1 (thrT (threadUp ps pre)) ⟨co, kk, th, el⟩) := by
      rw [threadUp_snoc]
      unfold thrStep
      rw [hE]
    have hgs : z1 + 3 ≤ gs := Nat.le_trans hI0.z hzg
    have hq := hI.q
    generalize threadUp ps pre = qs at *
    have hkq : ix < qs.length := by omega
    have hs' : thr1 (thrT qs) ⟨co, kk, th, el⟩ = if asksC co = true ∧ thrT qs th = thrT qs el then ⟨5, 0, thrT qs th, 0⟩ else mv (thrT qs) ⟨co, kk, th, el⟩ := thr1_mv _ _
    have hmc := mv_code (thrT qs) ⟨co, kk, th, el⟩
    obtain ⟨a', n', hKm⟩ := kind_mv (thrT qs) hK
    have hma : asksC co = true → mv (thrT qs) ⟨co, kk, th, el⟩ = ⟨co, kk, thrT qs th, thrT qs el⟩ := fun h => mv_asks (s := ⟨co, kk, th, el⟩) _ h
    have HMV := Lib.hid (fun (U : World) (hU : Ext W U) (g3 : Nat) (h3 : Blk U g3 32 #[.int .u16 co, .int .u32 kk, .int .i64 th, .int .i64 el]) =>
      movedT z1 (thrT qs) (fun t => 0 ≤ t ∧ t < n) g3 0 1 1 [⟨co, kk, th, el⟩] U rfl (Nat.le_refl _) (by omega) (InM.ofBlk h3 rfl)
        (fun i hi => by
          obtain rfl : i = 0 := by omega
          exact ⟨_, _, hK⟩)
        (fun i hi t ht => by
          obtain rfl : i = 0 := by omega
          have := tgt_bd hK ht
          omega)
        (fun U2 t hU2 ht => threadC z1 g n c' qs more hql U2 (hI.b3.ext (hU.trans hU2)) (hq.ext (hU.trans hU2)) t ht))
    simp only [List.map_cons, List.map_nil] at HMV
    generalize hmv : mv (thrT qs) ⟨co, kk, th, el⟩ = s' at *
    obtain ⟨co', kk', th', el'⟩ := s'
    dsimp only at hmc
    subst hmc
    have HAS := Lib.hid (fun W' => asks_any hKm W')
    dsimp only [Sy.val, Sy.cells] at HAS
    have i0 : (0 : Int) ≤ ix := by omega
    have i1 : (ix : Int) < n := by omega
    have HQ := Lib.hid hq
    have HI := Lib.hid hI
    have HBS := Lib.hid hbs
    have HSN := Lib.hid hsn
    have HS2 := Lib.hid hs'
    have HMA := Lib.hid hma
    clear hq hI hbs hsn hs' hma hK hKm hE hmv hI0
    unfold thrF
    gi_wp2_with fail
    refine wpIn_region_last (fun _ => trivial) rfl [.is (.slice (some ⟨g, 0, none⟩) n c'), .is ?va1, .is (.agg #[.int .u16 co', .int .u32 kk, .int .i64 th, .int .i64 el]), .blk 1 32 #[.int .u16 co', .int .u32 kk, .int .i64 th, .int .i64 el], .is (.func (.func 68) #[] #[.pointer (some ⟨z1, 0, none⟩)]), .row 1 (sc [⟨co', kk', th', el'⟩]), .ptrm (sc [⟨co', kk', th', el'⟩]), .is (.agg #[.int .u16 co', .int .u32 kk', .int .i64 th', .int .i64 el']), .is (.pointer (some ⟨g, ix * 4, none⟩))] (by kernel_rfl) (by kernel_rfl) (by kernel_rfl) ?Aa ?hAa ⟨?oa0, ?oa1, ?oa2, ?oa3, ?oa4, ?oa5, ?oa6, ?oa7, ?oa8, trivial⟩ _ rfl rfl ?fina
    case hAa => (intro x; simp only [fillOps, Act.put, List.setIfInBounds_toArray, List.set_cons_zero, List.set_cons_succ, Nat.reduceAdd]; rfl)
    case oa0 =>
      intro x U hU
      simp only [depV, OneIn, dstOf, readDst, asBool, VP.is, VP.any, VP.row, VP.ptr, VP.blk, VP.ex, VP.and, VP.of, List.getD_cons_zero, List.getD_cons_succ, VP.ptrm]
      have c0 := (HI.out.b3.ext hU).cell 0
      simp only [List.getElem?_toArray, List.getElem?_cons_zero] at c0
      gi_wp2_with (fail)
      refine done_mk ?_ rfl (Ext.refl _)
      rfl
    case oa1 =>
      intro x U hU
      simp only [depV, OneIn, dstOf, readDst, asBool, VP.is, VP.any, VP.row, VP.ptr, VP.blk, VP.ex, VP.and, VP.of, List.getD_cons_zero, List.getD_cons_succ, VP.ptrm]
      gi_wp2_with (fail)
      refine done_mk ?_ rfl (Ext.refl _)
      rfl
    case oa2 =>
      intro x U hU
      simp only [depV, OneIn, dstOf, readDst, asBool, VP.is, VP.any, VP.row, VP.ptr, VP.blk, VP.ex, VP.and, VP.of, List.getD_cons_zero, List.getD_cons_succ, VP.ptrm]
      have bsU := HBS.out.ext hU
      have s0 := bsU.cell 0
      have s1 := bsU.cell 1
      have s2 := bsU.cell 2
      have s3 := bsU.cell 3
      gi_wp2_with (fail)
      refine done_mk ?_ rfl (Ext.refl _)
      rfl
    case oa3 =>
      intro x U hU
      simp only [depV, OneIn, dstOf, readDst, asBool, VP.is, VP.any, VP.row, VP.ptr, VP.blk, VP.ex, VP.and, VP.of, List.getD_cons_zero, List.getD_cons_succ, VP.ptrm]
      intro d2
      simp only [d2]
      gi_wp2_with (fail)
      refine done_mk ?_ rfl ((Ext.refl _).alloc _)
      exact ⟨_, rfl, Blk.new _ _ _⟩
    case oa4 =>
      intro x U hU
      simp only [depV, OneIn, dstOf, readDst, asBool, VP.is, VP.any, VP.row, VP.ptr, VP.blk, VP.ex, VP.and, VP.of, List.getD_cons_zero, List.getD_cons_succ, VP.ptrm]
      have c0 := (HI.out.b4.ext hU).cell 0
      simp only [List.getElem?_toArray, List.getElem?_cons_zero] at c0
      gi_wp2_with (fail)
      refine done_mk ?_ rfl (Ext.refl _)
      rfl
    case oa5 =>
      intro x U hU
      simp only [depV, OneIn, dstOf, readDst, asBool, VP.is, VP.any, VP.row, VP.ptr, VP.blk, VP.ex, VP.and, VP.of, List.getD_cons_zero, List.getD_cons_succ, VP.ptrm]
      rintro ⟨g3, d3, m3⟩
      intro d4
      simp only [d3, d4]
      gi_wp2_with ((refine ⟨trivial, ?_⟩; gi_at_call 69; refine (CallsIn.inRound l ((callsIn_wide (n := 0)).2 (HMV.out U hU g3 m3))).mono ?_; rintro e w8 ⟨g2, c2, m2, rfl, hb2, hg2, hx8⟩))
      refine done_mk ?_ rfl (hx8)
      exact ⟨some ⟨g2, 0, none⟩, c2, rfl, (InM.ofBlk hb2 rfl).prefix_⟩
    case oa6 =>
      intro x U hU
      simp only [depV, OneIn, dstOf, readDst, asBool, VP.is, VP.any, VP.row, VP.ptr, VP.blk, VP.ex, VP.and, VP.of, List.getD_cons_zero, List.getD_cons_succ, VP.ptrm]
      rintro ⟨A5, c5, d5, m5⟩
      simp only [d5]
      obtain ⟨b5, o5, rfl, _⟩ := m5.some_ (Nat.zero_lt_succ 3)
      gi_wp2_with (fail)
      refine done_mk ?_ rfl (Ext.refl _)
      exact ⟨_, rfl, m5⟩
    case oa7 =>
      intro x U hU
      simp only [depV, OneIn, dstOf, readDst, asBool, VP.is, VP.any, VP.row, VP.ptr, VP.blk, VP.ex, VP.and, VP.of, List.getD_cons_zero, List.getD_cons_succ, VP.ptrm]
      rintro ⟨g6, d6, m6⟩
      simp only [d6]
      obtain ⟨b6, o6, rfl, _⟩ := m6.some_ (Nat.zero_lt_succ 3)
      have s0 := m6.cell (k := 0) rfl
      have s1 := m6.cell (k := 1) rfl
      have s2 := m6.cell (k := 2) rfl
      have s3 := m6.cell (k := 3) rfl
      simp only [Nat.add_zero] at s0
      gi_wp2_with (fail)
      refine done_mk ?_ rfl (Ext.refl _)
      rfl
    case oa8 =>
      intro x U hU
      simp only [depV, OneIn, dstOf, readDst, asBool, VP.is, VP.any, VP.row, VP.ptr, VP.blk, VP.ex, VP.and, VP.of, List.getD_cons_zero, List.getD_cons_succ, VP.ptrm]
      intro d0
      intro d1
      simp only [d0, d1]
      gi_wp2_with (fail)
      refine done_mk ?_ rfl (Ext.refl _)
      rfl
    case fina =>
      intro x U hU
      simp only [allV, depV, One, dstOf, readDst, asBool, VP.is, VP.any, VP.row, VP.ptr, VP.blk, VP.ex, VP.and, VP.of, List.getD_cons_zero, List.getD_cons_succ, VP.ptrm]
      intro d0
      intro d1
      intro d2
      rintro ⟨g3, d3, m3⟩
      intro d4
      rintro ⟨A5, c5, d5, m5⟩
      rintro ⟨g6, d6, m6⟩
      intro d7
      intro d8
      simp only [d0, d1, d2, d3, d4, d5, d6, d7, d8]
      clear d0 d1 d2 d3 d4 d5 d6 d7 d8
      have hB := HQ.out.ext hU
      have hfit : ix * 4 + 4 ≤ (sc qs ++ more).length := by rw [List.length_append, sc_length]; omega
      refine wpListIn_store_row rfl 32 (.tmp 22) (.tmp 21) rfl g (ix * 4) 32 (sc qs ++ more) #[.int .u16 co', .int .u32 kk', .int .i64 th', .int .i64 el'] rfl rfl hB hfit (by kernel_rfl) (by simp [Value.oneCell']) ?_
      intro w9 hb9 hg9
      have hq9 := blk_splice (s' := ⟨co', kk', th', el'⟩) hkq hb9
      have hK9 := KeepsFrom.trans (keeps_ext hU (z1 + 3)) (keeps_grown hg9 hB (z1 + 3))
      have hE9 : Ext w w9 := (HI.out.ext.trans hU).grown hg9 (fun r e => by injection e with e; omega)
      have b39 := (HI.out.b3.ext hU).grown hg9 (fun e => by injection e with e; omega)
      have b49 := (HI.out.b4.ext hU).grown hg9 (fun e => by injection e with e; omega)
      have b59 := (HI.out.b5.ext hU).grown hg9 (fun e => by injection e with e; omega)
      have bs9 := (HBS.out.ext hU).grown hg9 (fun e => by injection e with e; omega)
      have hz9 : W.heap.size ≤ w9.heap.size := Nat.le_trans hU.size hg9.size
      have hkq9 : ix < (qs.set ix ⟨co', kk', th', el'⟩).length := by rw [List.length_set]; exact hkq
      obtain ⟨q0, q1, q2, q3⟩ := blk_sym hq9 hkq9 (List.getElem_set_self ..)
      have c3 := b39.cell 0
      simp only [List.getElem?_toArray, List.getElem?_cons_zero] at c3
      have B39 := Lib.hid b39
      have B49 := Lib.hid b49
      have B59 := Lib.hid b59
      have BQ9 := Lib.hid hq9
      have E9 := Lib.hid hE9
      have K9 := Lib.hid hK9
      clear hb9 hB hfit b39 b49 b59 hq9 hE9 hK9
      have HFIT := Lib.hid (show ix * 4 + 4 ≤ (sc (qs.set ix ⟨co', kk', th', el'⟩) ++ more).length from by rw [List.length_append, sc_length]; omega)
      have hne1 : z1 ≠ gs := by omega
      have hne2 : z1 + 1 ≠ gs := by omega
      have hne3 : z1 + 1 + 1 ≠ gs := by omega
      have hne4 : g ≠ gs := by omega
      by_cases hA : asksC co' = true
      · have hs1 := HMA.out hA
        injection hs1 with e0 e1 e2 e3
        rw [hA] at HAS
        have HS3 := Lib.hid (fun (e : thrT qs th = thrT qs el) => HS2.out.trans (if_pos ⟨hA, e⟩))
        have HS4 := Lib.hid (fun (e : ¬ thrT qs th = thrT qs el) => HS2.out.trans (if_neg (fun q => e q.2)))
        have HX := Lib.hid e2
        have HY2 := Lib.hid e3
        clear e0 e1 e2 e3 hA HMA HS2
        rcases hxy : (th' == el') with _ | _
        · have hne : ¬ (thrT qs th = thrT qs el) := by rw [← HX.out, ← HY2.out]; simpa using hxy
          have HS5 := Lib.hid (HS4.out hne)
          clear hne HS3 HS4
          gi_wp2_with (first
            | (refine wpListIn_store_row rfl 32 (.tmp 6) (.tmp 26) rfl gs 0 32 [.int .u16 co', .int .u32 kk, .int .i64 th, .int .i64 el] #[.int .u16 co', .int .u32 kk', .int .i64 th', .int .i64 el'] rfl rfl bs9 (by simp) (by kernel_rfl) (by simp [Value.oneCell']) ?_
               intro w10 hb10 hg10
               have bs10 : Blk w10 gs 32 #[.int .u16 co', .int .u32 kk', .int .i64 th', .int .i64 el'] := by
                 rw [splice_whole _ _ (by simp)] at hb10
                 exact hb10
               have s0 := bs10.cell 0
               have s1 := bs10.cell 1
               have s2 := bs10.cell 2
               have s3 := bs10.cell 3)
            | (refine ⟨trivial, ?_⟩
               gi_at_call 62
               refine (CallsIn.inRound l ((callsIn_wide (n := 0)).2 (HAS.out _))).mono ?_
               rintro e w11 ⟨rfl, hx11⟩
               have HG10 := Lib.hid hg10
               have BS10 := Lib.hid bs10
               have BS9 := Lib.hid bs9
               have HZ9 := Lib.hid hz9
               have B310 := Lib.hid (B39.out.grown HG10.out (fun e => by injection e with e; omega))
               have B410 := Lib.hid (B49.out.grown HG10.out (fun e => by injection e with e; omega))
               have B510 := Lib.hid (B59.out.grown HG10.out (fun e => by injection e with e; omega))
               have BQ10 := Lib.hid (BQ9.out.grown HG10.out (fun e => by injection e with e; omega))
               have E10 := Lib.hid (E9.out.grown HG10.out (fun r e => by injection e with e; omega))
               have K10 := Lib.hid (KeepsFrom.trans K9.out (keeps_grown HG10.out BS9.out (z1 + 3)))
               have HZ10 := Lib.hid (show z1 + 3 ≤ w10.heap.size from by have := HI.out.z; have := HG10.out.size; have := HZ9.out; omega)
               clear hg10 hb10 bs10 bs9 hz9 s0 s1 s2 s3 q0 q1 q2 q3 c3
               have BS11 := Lib.hid (BS10.out.ext hx11)
               have s0 := BS11.out.cell 0
               have s1 := BS11.out.cell 1
               have s2 := BS11.out.cell 2
               have s3 := BS11.out.cell 3
               have c3 := (B310.out.ext hx11).cell 0
               simp only [List.getElem?_toArray, List.getElem?_cons_zero] at c3
               have hq11 := BQ10.out.ext hx11)
            | (refine wpListIn_store_row rfl 32 (.tmp 41) (.tmp 40) rfl g (ix * 4) 32 (sc (qs.set ix ⟨co', kk', th', el'⟩) ++ more) #[.int .u16 5, .int .u32 0, .int .i64 th', .int .i64 0] rfl rfl hq11 HFIT.out (by kernel_rfl) (by simp [Value.oneCell']) ?_
               intro w12 hb12 hg12))
          refine ⟨by (try rw [hz4]); exact KeepsFrom.trans K10.out (keeps_ext hx11 (z1 + 3)), ⟨fun _ => by rw [(B510.out.ext hx11).cell]; rfl, fun _ => HMEM.out.ext (E10.out.trans hx11)⟩, ⟨by rw [HSN.out, HS5.out]; exact BQ10.out.ext hx11, B310.out.ext hx11, B410.out.ext hx11, B510.out.ext hx11, E10.out.trans hx11, by have := hx11.size; have := HZ10.out; omega⟩⟩
        · have heq : thrT qs th = thrT qs el := by rw [← HX.out, ← HY2.out]; simpa using hxy
          have HS5 := Lib.hid (HS3.out heq)
          have hkq9 : ix < (qs.set ix ⟨co', kk', th', el'⟩).length := by rw [List.length_set]; exact hkq
          clear heq HS3 HS4
          gi_wp2_with (first
            | (refine wpListIn_store_row rfl 32 (.tmp 6) (.tmp 26) rfl gs 0 32 [.int .u16 co', .int .u32 kk, .int .i64 th, .int .i64 el] #[.int .u16 co', .int .u32 kk', .int .i64 th', .int .i64 el'] rfl rfl bs9 (by simp) (by kernel_rfl) (by simp [Value.oneCell']) ?_
               intro w10 hb10 hg10
               have bs10 : Blk w10 gs 32 #[.int .u16 co', .int .u32 kk', .int .i64 th', .int .i64 el'] := by
                 rw [splice_whole _ _ (by simp)] at hb10
                 exact hb10
               have s0 := bs10.cell 0
               have s1 := bs10.cell 1
               have s2 := bs10.cell 2
               have s3 := bs10.cell 3)
            | (refine ⟨trivial, ?_⟩
               gi_at_call 62
               refine (CallsIn.inRound l ((callsIn_wide (n := 0)).2 (HAS.out _))).mono ?_
               rintro e w11 ⟨rfl, hx11⟩
               have HG10 := Lib.hid hg10
               have BS10 := Lib.hid bs10
               have BS9 := Lib.hid bs9
               have HZ9 := Lib.hid hz9
               have B310 := Lib.hid (B39.out.grown HG10.out (fun e => by injection e with e; omega))
               have B410 := Lib.hid (B49.out.grown HG10.out (fun e => by injection e with e; omega))
               have B510 := Lib.hid (B59.out.grown HG10.out (fun e => by injection e with e; omega))
               have BQ10 := Lib.hid (BQ9.out.grown HG10.out (fun e => by injection e with e; omega))
               have E10 := Lib.hid (E9.out.grown HG10.out (fun r e => by injection e with e; omega))
               have K10 := Lib.hid (KeepsFrom.trans K9.out (keeps_grown HG10.out BS9.out (z1 + 3)))
               have HZ10 := Lib.hid (show z1 + 3 ≤ w10.heap.size from by have := HI.out.z; have := HG10.out.size; have := HZ9.out; omega)
               clear hg10 hb10 bs10 bs9 hz9 s0 s1 s2 s3 q0 q1 q2 q3 c3
               have BS11 := Lib.hid (BS10.out.ext hx11)
               have s0 := BS11.out.cell 0
               have s1 := BS11.out.cell 1
               have s2 := BS11.out.cell 2
               have s3 := BS11.out.cell 3
               have c3 := (B310.out.ext hx11).cell 0
               simp only [List.getElem?_toArray, List.getElem?_cons_zero] at c3
               have hq11 := BQ10.out.ext hx11)
            | (refine wpListIn_store_row rfl 32 (.tmp 41) (.tmp 40) rfl g (ix * 4) 32 (sc (qs.set ix ⟨co', kk', th', el'⟩) ++ more) #[.int .u16 5, .int .u32 0, .int .i64 th', .int .i64 0] rfl rfl hq11 HFIT.out (by kernel_rfl) (by simp [Value.oneCell']) ?_
               intro w12 hb12 hg12))
          have hq12 := blk_splice (s' := ⟨5, 0, th', 0⟩) hkq9 hb12
          rw [List.set_set] at hq12
          have E12 : Ext w w12 := (E10.out.trans hx11).grown hg12 (fun r e => by injection e with e; omega)
          have b512 := (B510.out.ext hx11).grown hg12 (fun e => by injection e with e; omega)
          refine ⟨KeepsFrom.trans K10.out (KeepsFrom.trans (keeps_ext hx11 (z1 + 3)) (keeps_grown hg12 hq11 (z1 + 3))), ⟨fun _ => by rw [b512.cell]; rfl, fun _ => HMEM.out.ext E12⟩, ⟨by rw [HSN.out, HS5.out, ← HX.out]; exact hq12, (B310.out.ext hx11).grown hg12 (fun e => by injection e with e; omega), (B410.out.ext hx11).grown hg12 (fun e => by injection e with e; omega), b512, E12, by have := hx11.size; have := HZ10.out; have := hg12.size; omega⟩⟩
      · have hA' : asksC co' = false := by simpa using hA
        have HS4 := Lib.hid (HS2.out.trans (if_neg (fun q => hA q.1)))
        rw [hA'] at HAS
        clear hA hA' HMA HS2
        gi_wp2_with (first
          | (refine wpListIn_store_row rfl 32 (.tmp 6) (.tmp 26) rfl gs 0 32 [.int .u16 co', .int .u32 kk, .int .i64 th, .int .i64 el] #[.int .u16 co', .int .u32 kk', .int .i64 th', .int .i64 el'] rfl rfl bs9 (by simp) (by kernel_rfl) (by simp [Value.oneCell']) ?_
             intro w10 hb10 hg10
             have bs10 : Blk w10 gs 32 #[.int .u16 co', .int .u32 kk', .int .i64 th', .int .i64 el'] := by
               rw [splice_whole _ _ (by simp)] at hb10
               exact hb10
             have s0 := bs10.cell 0
             have s1 := bs10.cell 1
             have s2 := bs10.cell 2
             have s3 := bs10.cell 3)
          | (refine ⟨trivial, ?_⟩
             gi_at_call 62
             refine (CallsIn.inRound l ((callsIn_wide (n := 0)).2 (HAS.out _))).mono ?_
             rintro e w11 ⟨rfl, hx11⟩
             have HG10 := Lib.hid hg10
             have BS10 := Lib.hid bs10
             have BS9 := Lib.hid bs9
             have HZ9 := Lib.hid hz9
             have B310 := Lib.hid (B39.out.grown HG10.out (fun e => by injection e with e; omega))
             have B410 := Lib.hid (B49.out.grown HG10.out (fun e => by injection e with e; omega))
             have B510 := Lib.hid (B59.out.grown HG10.out (fun e => by injection e with e; omega))
             have BQ10 := Lib.hid (BQ9.out.grown HG10.out (fun e => by injection e with e; omega))
             have E10 := Lib.hid (E9.out.grown HG10.out (fun r e => by injection e with e; omega))
             have K10 := Lib.hid (KeepsFrom.trans K9.out (keeps_grown HG10.out BS9.out (z1 + 3)))
             have HZ10 := Lib.hid (show z1 + 3 ≤ w10.heap.size from by have := HI.out.z; have := HG10.out.size; have := HZ9.out; omega)
             clear hg10 hb10 bs10 bs9 hz9 s0 s1 s2 s3 q0 q1 q2 q3 c3
             have BS11 := Lib.hid (BS10.out.ext hx11)
             have s0 := BS11.out.cell 0
             have s1 := BS11.out.cell 1
             have s2 := BS11.out.cell 2
             have s3 := BS11.out.cell 3
             have c3 := (B310.out.ext hx11).cell 0
             simp only [List.getElem?_toArray, List.getElem?_cons_zero] at c3
             have hq11 := BQ10.out.ext hx11)
          | (refine wpListIn_store_row rfl 32 (.tmp 41) (.tmp 40) rfl g (ix * 4) 32 (sc (qs.set ix ⟨co', kk', th', el'⟩) ++ more) #[.int .u16 5, .int .u32 0, .int .i64 th', .int .i64 0] rfl rfl hq11 HFIT.out (by kernel_rfl) (by simp [Value.oneCell']) ?_
             intro w12 hb12 hg12))
        refine ⟨by (try rw [hz4]); exact KeepsFrom.trans K10.out (keeps_ext hx11 (z1 + 3)), ⟨fun _ => by rw [(B510.out.ext hx11).cell]; rfl, fun _ => HMEM.out.ext (E10.out.trans hx11)⟩, ⟨by rw [HSN.out, HS4.out]; exact BQ10.out.ext hx11, B310.out.ext hx11, B410.out.ext hx11, B510.out.ext hx11, E10.out.trans hx11, by have := hx11.size; have := HZ10.out; omega⟩⟩
  case done =>
    rintro D ys W hD hys hI hK
    have q4 := hI.b3.cell 0
    simp only [List.getElem?_toArray, List.getElem?_cons_zero] at q4
    have hn2 : ∀ r, some D = some r → ∃ o : Obj, W.heap[r]? = some o ∧ o.isCells = false := fun r e => by cases e; exact ⟨_, hK, rfl⟩
    have hq := hI.q
    rw [hys] at hq
    gi_wp2
    refine ⟨by simp, .inl ⟨_, _, rfl, run_takeDeferred hK, ?_⟩⟩
    exact ⟨_, results_tmp rfl _ _ _, g, c', more, rfl, by rw [HTL.out]; exact blk_noncells hq (grownBy_putObj' W D _) hn2, hg1, hI.ext.grown (grownBy_putObj' W D _) (fun r e => by cases e; omega)⟩
end Go.Proofs.Ytjlhfmedaandeaa
