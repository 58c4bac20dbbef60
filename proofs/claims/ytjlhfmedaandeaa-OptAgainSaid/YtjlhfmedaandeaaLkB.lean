import Derived.Test.YtjlhfmedaandeaaLkA
import Derived.Test.YtjlhfmedaandeaaBck
/- link.linked: a row put down from its last instruction to its first one. -/
namespace Go.Proofs.Ytjlhfmedaandeaa
open Go.RowKit Go.ChangeShapes Go.WideShapes
set_option linter.unusedVariables false
set_option linter.unusedSimpArgs false
attribute [local go_sem] Oper.semAt_some

/-- What was put down, where, and how many are far. -/
structure LSt where
  bk : List Ins
  pl : List Int
  far : Int
def lstep (ps : List Sy) (st : LSt) (i : Nat) : LSt :=
  ⟨st.bk ++ (oneL st.bk.length st.pl (ps.getD i zeroS)).1.reverse, st.pl.set i ((st.bk ++ (oneL st.bk.length st.pl (ps.getD i zeroS)).1.reverse).length : Int), st.far + (oneL st.bk.length st.pl (ps.getD i zeroS)).2⟩
def lst (ps : List Sy) (pre : List Nat) : LSt := pre.foldl (lstep ps) ⟨[], List.replicate ps.length 0, 0⟩
theorem lst_snoc (ps : List Sy) (pre : List Nat) (i : Nat) : lst ps (pre ++ [i]) = lstep ps (lst ps pre) i := by simp [lst, List.foldl_append]
theorem oneL_len (nb : Nat) (pl : List Int) (s : Sy) : (oneL nb pl s).1.length ≤ 3 ∧ 0 ≤ (oneL nb pl s).2 ∧ (oneL nb pl s).2 ≤ 1 ∧ 1 ≤ (oneL nb pl s).1.length := by
  unfold oneL
  (repeat' split) <;> simp
structure LBd (n k : Nat) (st : LSt) : Prop where
  h1 : st.bk.length ≤ 3 * k
  h2 : st.pl.length = n
  h3 : ∀ x ∈ st.pl, 0 ≤ x ∧ x ≤ st.bk.length
  h4 : 0 ≤ st.far
  h5 : st.far ≤ k
  h6 : k ≤ st.bk.length
theorem lstep_bd (ps : List Sy) (n k : Nat) (st : LSt) (h : LBd n k st) (i : Nat) : LBd n (k + 1) (lstep ps st i) := by
  obtain ⟨h1, h2, h3, h4, h5, h6⟩ := h
  unfold lstep
  obtain ⟨k1, k2, k3, k4⟩ := oneL_len st.bk.length st.pl (ps.getD i zeroS)
  generalize oneL st.bk.length st.pl (ps.getD i zeroS) = o at *
  refine ⟨?_, ?_, fun x hx => ?_, ?_, ?_, ?_⟩
  · dsimp only; rw [List.length_append, List.length_reverse]; omega
  · dsimp only; rw [List.length_set]; exact h2
  · dsimp only at hx ⊢
    rw [List.length_append, List.length_reverse] at *
    rcases List.mem_or_eq_of_mem_set hx with h | h
    · have := h3 x h
      omega
    · rw [h]
      omega
  · dsimp only; omega
  · dsimp only; omega
  · dsimp only; rw [List.length_append, List.length_reverse]; omega
theorem lfold_bd (ps : List Sy) (n : Nat) : ∀ (pre : List Nat) (k : Nat) (st : LSt), LBd n k st → LBd n (k + pre.length) (pre.foldl (lstep ps) st)
  | [], k, st, h => h
  | i :: pre, k, st, h => by
    have := lfold_bd ps n pre (k + 1) _ (lstep_bd ps n k st h i)
    rw [List.length_cons, show k + (pre.length + 1) = k + 1 + pre.length by omega]
    exact this
theorem lst_bd (ps : List Sy) (pre : List Nat) : LBd ps.length pre.length (lst ps pre) := by
  have := lfold_bd ps ps.length pre 0 ⟨[], List.replicate ps.length 0, 0⟩ ⟨by simp, by simp, fun x hx => by have := List.eq_of_mem_replicate hx; simp [this], by simp, by simp, by simp⟩
  rw [Nat.zero_add] at this
  exact this
theorem info_int3 : (Try.prog.info? 3).map (fun i => (i.zero, i.size, i.bytes)) = some (some (.int .i64 0), 1, 8) := by kernel_rfl
theorem made_ints (n : Nat) : madeCells #[Value.int .i64 0] n = (nums .i64 (List.replicate n 0)).toArray := by
  apply Array.toList_inj.1
  rw [toList_madeCells_one]
  simp [nums]
def linkF (A : Option Addr) (n c z1 g ix : Nat) (co kk th el : Int) : Act :=
  { tmps := #[.slice A n c, undef, .pointer none, .bool false, .pointer (some ⟨z1 + 1 + 1, 0, none⟩), .int .i64 ix, .pointer (some ⟨g, 0, none⟩), .slice A n c, .bool true, .bool false, .slice A n c, .int .i64 n, .slice (some ⟨z1, 0, none⟩) n n, .agg #[.slice none 0 0, .slice (some ⟨z1, 0, none⟩) n n, .int .i64 0], .pointer (some ⟨z1 + 1, 0, none⟩), .slice A n c, .func (.func 80) #[] #[.pointer (some ⟨z1 + 1 + 1 + 1, 0, none⟩)], .int .i64 ix, .agg #[.int .u16 co, .int .u32 kk, .int .i64 th, .int .i64 el], undef, undef, undef, undef, undef, undef, undef, undef, undef, undef, undef, undef, undef, undef, undef], defers := [] }
def LinkA (A : Option Addr) (n c z1 : Nat) (ps : List Sy) (x z0 : Nat) (a1 : Act) (W : World) : Prop :=
  ∃ g co kk th el, z0 ≤ g ∧ ps.getD x zeroS = ⟨co, kk, th, el⟩ ∧ a1 = linkF A n c z1 g x co kk th el ∧ Blk W g 32 #[.int .u16 co, .int .u32 kk, .int .i64 th, .int .i64 el]
structure LinkI (w1 : World) (A : Option Addr) (n c z1 : Nat) (ps : List Sy) (pre : List Nat) (W : World) : Prop where
  ex : ∃ v, LK (z1 + 1) z1 n z1 (lst ps pre).bk (lst ps pre).pl (lst ps pre).far v W
  b4 : Blk W (z1 + 1 + 1) 64 #[.pointer (some ⟨z1 + 1, 0, none⟩)]
  b5 : Blk W (z1 + 1 + 1 + 1) 22 #[.slice A n c]
  ext : Ext w1 W
  z : z1 + 4 ≤ W.heap.size
theorem LinkI_own (w1 : World) (A : Option Addr) (n c z1 : Nat) (hz : w1.heap.size = z1) (ps : List Sy) : OwnFrom (z1 + 4) (LinkI w1 A n c z1 ps) := fun pre W W' row h hg hr => by
  have hn : ∀ r, row = some r → ∃ o : Obj, W.heap[r]? = some o ∧ o.isCells = false := fun r e => (hr r e).2
  obtain ⟨v, L⟩ := h.ex
  exact ⟨⟨v, blk_noncells L.k hg hn, own_noncells L.r hg hn, blk_noncells L.q hg hn⟩, blk_noncells h.b4 hg hn, blk_noncells h.b5 hg hn, h.ext.grown hg (fun r e => by have := (hr r e).1; omega), Nat.le_trans h.z hg.size⟩
theorem Ext.pu {a W W' : World} {g : Nat} {ob : Option Nat} (h : Ext a W) (pu : PU g ob W W') (hg : a.heap.size ≤ g) (hob : ∀ b, ob = some b → a.heap.size ≤ b) : Ext a W' :=
  ⟨pu.os.trans h.os, pu.tape.trans h.tape, pu.output.trans h.output, Nat.le_trans h.size pu.size, fun k hk => (pu.keep k (Nat.lt_of_lt_of_le hk h.size) (by omega) (fun e => by have := hob k e; omega)).trans (h.block hk)⟩
theorem PU.keeps {g B : Nat} {v : Value} {base n : Nat} {e t : TypeId} {xs : List Value} {cs : Array Value} {W W' : World} (h : PU g v.ownBlock W W') (hk : Blk W g t cs) (ho : W.ownsRow base e 4 v n xs) : KeepsFrom B W W' :=
  KeepsOthers.from ⟨h.size, fun k o hk2 hc => (h.keep k (Array.getElem?_eq_some_iff.1 hk2).1 (fun q => by
    subst q
    unfold Blk at hk
    rw [hk] at hk2
    injection hk2 with hk2
    subst hk2
    cases hc) (fun q => by
    rcases ho.2 with ⟨rfl, _⟩ | ⟨g', cap, cur, rfl, _, hgb, _⟩
    · cases q
    · cases q
      rw [hgb] at hk2
      injection hk2 with hk2
      subst hk2
      cases hc)).trans hk2⟩ _
set_option maxHeartbeats 2000000 in
set_option maxRecDepth 100000 in
theorem linked_in (A : Option Addr) (n c : Nat) (ps : List Sy) (w : World) (hp : ps.length = n) (hok : ∀ i ∈ ps, i.ok) (hmay : mayL ps = true) (hM : InM w A (sc ps)) :
    CallsIn .wide 3 Try.prog 43 #[.slice A n c] w fun e w' => ∃ gk gp base v, e = .returned (.tuple #[.pointer (some ⟨gk, 0, none⟩), .bool true]) ∧
      LK gk gp n base (lst ps (List.range n).reverse).bk (lst ps (List.range n).reverse).pl (lst ps (List.range n).reverse).far v w' ∧ Ext w w' ∧ w.heap.size ≤ base := by
  have hY := mayL_of hmay
  have hn : n ≤ 131072 := by have := hY.l2; omega
  have HP := Lib.hid hp
  have HMay := Lib.hid (codeMay A n c ps w hp hok (by unfold maxLen; omega) hM)
  rw [hmay] at HMay
  have hmk : ∀ w : World, (Instr.makeSlice 67 (.int .i64 (n : Int)) (.int .i64 (n : Int))).run Try.prog w = .ok (.slice (some ⟨w.heap.size, 0, none⟩) n n) (w.alloc (.cells (nums .i64 (List.replicate n 0)).toArray 3)) := fun w => by
    rw [← made_ints]
    exact make_run1 67 3 (.int .i64 0) 8 Try.underlying67 info_int3 rfl .i64 .i64 n n (Nat.le_refl _) (by omega) (by omega) w
  have HMEM := Lib.hid hM
  clear hp hM hmay
  refine callsIn_of_wp_marks Try.func43 rfl trivial ?_ rfl
  simp only [Try.ntmps43, List.size_toArray, List.length_cons, List.length_nil, Nat.reduceAdd, Nat.reduceSub, Array.replicate_succ, Array.replicate_zero, List.push_toArray, List.append_toArray, List.nil_append, List.cons_append]
  gi_wp2_with (first
    | (refine ⟨trivial, ?_⟩; gi_at_call 24; refine ((callsIn_wide (n := 2)).2 HMay.out).mono ?_; rintro e w1 ⟨rfl, hx1⟩)
    | (refine ⟨trivial, ?_⟩; gi_at_call 63; refine (backS_in A n c _).mono ?_; rintro e w' ⟨rfl, rfl⟩))
  generalize hz1 : w1.heap.size = z1 at *
  have hBp : Blk ((((w1.alloc (.cells (Array.replicate n (.int .i64 0)) 3)).alloc (.cells #[.slice none 0 0, .slice (some ⟨z1, 0, none⟩) n n, .int .i64 0] 69)).alloc (.cells #[.pointer (some ⟨z1 + 1, 0, none⟩)] 64)).alloc (.cells #[.slice A n c] 22)) z1 3 (Array.replicate n (.int .i64 0)) := (((Blk.new_ hz1.symm).alloc _).alloc _).alloc _
  have hBk : Blk ((((w1.alloc (.cells (Array.replicate n (.int .i64 0)) 3)).alloc (.cells #[.slice none 0 0, .slice (some ⟨z1, 0, none⟩) n n, .int .i64 0] 69)).alloc (.cells #[.pointer (some ⟨z1 + 1, 0, none⟩)] 64)).alloc (.cells #[.slice A n c] 22)) (z1 + 1) 69 #[.slice none 0 0, .slice (some ⟨z1, 0, none⟩) n n, .int .i64 0] := ((Blk.new_ (by simp [hz1])).alloc _).alloc _
  have hB4 : Blk ((((w1.alloc (.cells (Array.replicate n (.int .i64 0)) 3)).alloc (.cells #[.slice none 0 0, .slice (some ⟨z1, 0, none⟩) n n, .int .i64 0] 69)).alloc (.cells #[.pointer (some ⟨z1 + 1, 0, none⟩)] 64)).alloc (.cells #[.slice A n c] 22)) (z1 + 1 + 1) 64 #[.pointer (some ⟨z1 + 1, 0, none⟩)] := (Blk.new_ (by simp [hz1])).alloc _
  have hB5 : Blk ((((w1.alloc (.cells (Array.replicate n (.int .i64 0)) 3)).alloc (.cells #[.slice none 0 0, .slice (some ⟨z1, 0, none⟩) n n, .int .i64 0] 69)).alloc (.cells #[.pointer (some ⟨z1 + 1, 0, none⟩)] 64)).alloc (.cells #[.slice A n c] 22)) (z1 + 1 + 1 + 1) 22 #[.slice A n c] := Blk.new_ (by simp [hz1])
  have hE1 : Ext w1 ((((w1.alloc (.cells (Array.replicate n (.int .i64 0)) 3)).alloc (.cells #[.slice none 0 0, .slice (some ⟨z1, 0, none⟩) n n, .int .i64 0] 69)).alloc (.cells #[.pointer (some ⟨z1 + 1, 0, none⟩)] 64)).alloc (.cells #[.slice A n c] 22)) := ((((Ext.refl w1).alloc _).alloc _).alloc _).alloc _
  have hz4 : ((((w1.alloc (.cells (Array.replicate n (.int .i64 0)) 3)).alloc (.cells #[.slice none 0 0, .slice (some ⟨z1, 0, none⟩) n n, .int .i64 0] 69)).alloc (.cells #[.pointer (some ⟨z1 + 1, 0, none⟩)] 64)).alloc (.cells #[.slice A n c] 22)).heap.size = z1 + 4 := by simp [hz1]
  generalize (((w1.alloc (.cells (Array.replicate n (.int .i64 0)) 3)).alloc (.cells #[.slice none 0 0, .slice (some ⟨z1, 0, none⟩) n n, .int .i64 0] 69)).alloc (.cells #[.pointer (some ⟨z1 + 1, 0, none⟩)] 64)).alloc (.cells #[.slice A n c] 22) = w0 at *
  have hM0 : InM w0 A (sc ps) := (HMEM.out.ext hx1).ext hE1
  have hrep : (Array.replicate n (Value.int .i64 0)) = (nums .i64 (List.replicate n 0)).toArray := by simp [nums]
  have hl0 : lst ps [] = ⟨[], List.replicate n 0, 0⟩ := by unfold lst; rw [HP.out]; rfl
  refine rangeFunc_tellsA rfl (by decide) (gf := 80) (lb := #[.pointer (some ⟨z1 + 1 + 1 + 1, 0, none⟩)]) rfl trivial (enters_of Try.func80 (by kernel_rfl) rfl)
    (backS_tells (z1 + 1 + 1 + 1) n c A ps HP.out (by omega) w0 hB5.lt (by rw [hB5.cell]; rfl) hM0) (fun h k => h.trans k)
    (fun W l o o' _ hl hc _ => ⟨fun hv => cell_kept hv (grownBy_putObj' W l o') (fun r e => by cases e; exact ⟨o, hl, hc⟩), fun hv j u hu => by
      obtain ⟨b, off, e, hcc⟩ := hv j u hu
      exact ⟨b, off, e, cell_kept hcc (grownBy_putObj' W l o') (fun r e => by cases e; exact ⟨o, hl, hc⟩)⟩⟩) (Below.refl _ _) (fun _ => rfl)
    (fun x W l o o' hG _ _ => hG)
    (LinkI w1 A n c z1 ps) (by rw [hz4]; exact LinkI_own w1 A n c z1 hz1 ps)
    ⟨⟨.slice none 0 0, by rw [hl0]; exact ⟨hBk, World.ownsRow_nil _ _ _ _, by rw [← hrep]; exact hBp⟩⟩, hB4, hB5, hE1, by omega⟩
    (LinkA A n c z1 ps)
    (fun x z0 a1 W l o o' ⟨g, co, jt, jf, kk, h1, h2, h3, h4⟩ hl hc => ⟨g, co, jt, jf, kk, h1, h2, h3, blk_noncells h4 (grownBy_putObj' W l o') (fun r e => by cases e; exact ⟨o, hl, hc⟩)⟩)
    (fun _ _ _ h _ => h) (fun W W' e => ⟨fun h => e.cell h, fun h => h.ext e⟩) ?assign ?body ?done
  case assign =>
    intro l x W K hG hK
    obtain ⟨⟨co, kk, th, el⟩, hE⟩ : ∃ E, ps.getD x zeroS = E := ⟨_, rfl⟩
    simp only [hE, Sy.val, Sy.cells]
    gi_wp2
    exact hK _ _ ((Ext.refl W).alloc _) ⟨W.heap.size, co, kk, th, el, Nat.le_refl _, hE, rfl, Blk.new _ _ _⟩
  case body =>
    rintro l pre ix W0 W a1 _ hI hxm ⟨g, co, kk, th, el, hzg, hE, rfl, hbi⟩ _ hlt
    obtain ⟨v, L⟩ := hI.ex
    have hixp : ix < ps.length := by rw [HP.out]; exact hxm
    have hKd := kind_of (hY.one ix hixp)
    have hoks : (ps.getD ix zeroS).ok := by rw [getD_sy hixp]; exact hok _ (List.getElem_mem hixp)
    rw [hE, HP.out] at hKd
    rw [hE] at hoks
    have hbd := lst_bd ps pre
    rw [HP.out] at hbd
    have hsn := lst_snoc ps pre ix
    unfold lstep at hsn
    rw [hE] at hsn
    have HO := Lib.hid ((callsIn_wide (n := 0)).2 (oneI (z1 + 1) z1 n z1 (lst ps pre).bk (lst ps pre).pl (lst ps pre).far v W ⟨co, kk, th, el⟩ ix (by omega) hoks hKd hbd.h2 hn (by have := hbd.h1; omega) hbd.h3 ⟨hbd.h4, by have := hbd.h5; omega⟩ (by omega) (by have := hI.z; omega) L))
    simp only [Sy.val, Sy.cells] at HO
    have q4 := hI.b4.cell 0
    have s0 := (hbi).cell 0
    have s1 := (hbi).cell 1
    have s2 := (hbi).cell 2
    have s3 := (hbi).cell 3
    have i0 : (0 : Int) ≤ ix := by omega
    have i1 : (ix : Int) < n := by omega
    unfold linkF
    gi_wp2_with (refine ⟨trivial, ?_⟩; gi_at_call 64; refine (CallsIn.inRound l HO.out).mono ?_; rintro e w9 ⟨⟨u9, rfl⟩, h9⟩)
    obtain ⟨v9, L9, _⟩ := h9.ex
    have pu9 := h9.pu
    obtain ⟨vA, vc, rfl⟩ := L9.val
    have hsz9 := pu9.size
    have hzW := hI.z
    have hrl : ∀ b, v.ownBlock = some b → z1 ≤ b := fun b e => (L.r.lt b e).1
    have b49 : Blk w9 (z1 + 1 + 1) 64 #[.pointer (some ⟨z1 + 1, 0, none⟩)] := (pu9.keep (z1 + 1 + 1) (by omega) (by omega) (own_ne_blk L.r hI.b4 (by decide))).trans hI.b4
    have b59 : Blk w9 (z1 + 1 + 1 + 1) 22 #[.slice A n c] := (pu9.keep (z1 + 1 + 1 + 1) (by omega) (by omega) (own_ne_blk L.r hI.b5 (by decide))).trans hI.b5
    have hE9 : Ext w1 w9 := hI.ext.pu pu9 (by omega) (fun b e => by have := hrl b e; omega)
    have hk9 := pu9.keeps (B := w0.heap.size) L.k L.r
    obtain ⟨bk9, hbk9⟩ : ∃ b, (lst ps pre).bk ++ (oneL (lst ps pre).bk.length (lst ps pre).pl ⟨co, kk, th, el⟩).1.reverse = b := ⟨_, rfl⟩
    obtain ⟨far9, hfar9⟩ : ∃ b, (lst ps pre).far + (oneL (lst ps pre).bk.length (lst ps pre).pl ⟨co, kk, th, el⟩).2 = b := ⟨_, rfl⟩
    rw [hbk9, hfar9] at hsn
    rw [hbk9, hfar9] at L9
    have hpl := hbd.h2
    have cpl : ((nums .i64 (lst ps pre).pl).toArray)[ix]? = some (.int .i64 ((lst ps pre).pl[ix]'(by omega))) := by rw [List.getElem?_toArray, nums_at (by omega)]
    generalize (lst ps pre).pl[ix]'(by omega) = p at cpl
    have CPL := Lib.hid cpl
    have LL := Lib.hid L9
    clear q4 s0 s1 s2 s3 cpl h9 pu9 HO L9
    gi_wp2_with fail
    refine wpIn_region_last (fun _ => trivial) rfl [.is (.pointer (some ⟨z1 + 1, 0, none⟩)), .is ?va1, .is ?va2, .is (.slice (some ⟨z1, 0, none⟩) n n), .is ?va4, .is (.pointer (some ⟨z1 + 1, 0, none⟩)), .is ?va6, .is ?va7, .is (.slice vA bk9.length vc), .is ?va9, .is ?va10] (by kernel_rfl) (by kernel_rfl) (by kernel_rfl) ?Aa ?hAa ⟨?oa0, ?oa1, ?oa2, ?oa3, ?oa4, ?oa5, ?oa6, ?oa7, ?oa8, ?oa9, ?oa10, trivial⟩ _ rfl rfl ?fina
    case hAa => (intro x; simp only [fillOps, Act.put, List.setIfInBounds_toArray, List.set_cons_zero, List.set_cons_succ, Nat.reduceAdd]; rfl)
    case oa0 =>
      intro x U hU
      simp only [depV, OneIn, dstOf, readDst, asBool, VP.is, VP.any, VP.row, VP.ptr, VP.blk, VP.ex, VP.and, VP.of, List.getD_cons_zero, List.getD_cons_succ]
      have c0 := (b49.ext hU).cell 0
      gi_wp2_with (fail)
      refine done_mk ?_ rfl (Ext.refl _)
      rfl
    case oa1 =>
      intro x U hU
      simp only [depV, OneIn, dstOf, readDst, asBool, VP.is, VP.any, VP.row, VP.ptr, VP.blk, VP.ex, VP.and, VP.of, List.getD_cons_zero, List.getD_cons_succ]
      intro d0
      simp only [d0]
      gi_wp2_with (fail)
      refine done_mk ?_ rfl (Ext.refl _)
      rfl
    case oa2 =>
      intro x U hU
      simp only [depV, OneIn, dstOf, readDst, asBool, VP.is, VP.any, VP.row, VP.ptr, VP.blk, VP.ex, VP.and, VP.of, List.getD_cons_zero, List.getD_cons_succ]
      intro d1
      simp only [d1]
      gi_wp2_with (fail)
      refine done_mk ?_ rfl (Ext.refl _)
      rfl
    case oa3 =>
      intro x U hU
      simp only [depV, OneIn, dstOf, readDst, asBool, VP.is, VP.any, VP.row, VP.ptr, VP.blk, VP.ex, VP.and, VP.of, List.getD_cons_zero, List.getD_cons_succ]
      intro d2
      simp only [d2]
      have c0 := (LL.out.k.ext hU).cell 1
      gi_wp2_with (fail)
      refine done_mk ?_ rfl (Ext.refl _)
      rfl
    case oa4 =>
      intro x U hU
      simp only [depV, OneIn, dstOf, readDst, asBool, VP.is, VP.any, VP.row, VP.ptr, VP.blk, VP.ex, VP.and, VP.of, List.getD_cons_zero, List.getD_cons_succ]
      gi_wp2_with (fail)
      refine done_mk ?_ rfl (Ext.refl _)
      rfl
    case oa5 =>
      intro x U hU
      simp only [depV, OneIn, dstOf, readDst, asBool, VP.is, VP.any, VP.row, VP.ptr, VP.blk, VP.ex, VP.and, VP.of, List.getD_cons_zero, List.getD_cons_succ]
      have c0 := (b49.ext hU).cell 0
      gi_wp2_with (fail)
      refine done_mk ?_ rfl (Ext.refl _)
      rfl
    case oa6 =>
      intro x U hU
      simp only [depV, OneIn, dstOf, readDst, asBool, VP.is, VP.any, VP.row, VP.ptr, VP.blk, VP.ex, VP.and, VP.of, List.getD_cons_zero, List.getD_cons_succ]
      intro d5
      simp only [d5]
      gi_wp2_with (fail)
      refine done_mk ?_ rfl (Ext.refl _)
      rfl
    case oa7 =>
      intro x U hU
      simp only [depV, OneIn, dstOf, readDst, asBool, VP.is, VP.any, VP.row, VP.ptr, VP.blk, VP.ex, VP.and, VP.of, List.getD_cons_zero, List.getD_cons_succ]
      intro d6
      simp only [d6]
      gi_wp2_with (fail)
      refine done_mk ?_ rfl (Ext.refl _)
      rfl
    case oa8 =>
      intro x U hU
      simp only [depV, OneIn, dstOf, readDst, asBool, VP.is, VP.any, VP.row, VP.ptr, VP.blk, VP.ex, VP.and, VP.of, List.getD_cons_zero, List.getD_cons_succ]
      intro d7
      simp only [d7]
      have c0 := (LL.out.k.ext hU).cell 0
      gi_wp2_with (fail)
      refine done_mk ?_ rfl (Ext.refl _)
      rfl
    case oa9 =>
      intro x U hU
      simp only [depV, OneIn, dstOf, readDst, asBool, VP.is, VP.any, VP.row, VP.ptr, VP.blk, VP.ex, VP.and, VP.of, List.getD_cons_zero, List.getD_cons_succ]
      intro d8
      simp only [d8]
      gi_wp2_with (fail)
      refine done_mk ?_ rfl (Ext.refl _)
      rfl
    case oa10 =>
      intro x U hU
      simp only [depV, OneIn, dstOf, readDst, asBool, VP.is, VP.any, VP.row, VP.ptr, VP.blk, VP.ex, VP.and, VP.of, List.getD_cons_zero, List.getD_cons_succ]
      intro d3
      intro d4
      simp only [d3, d4]
      gi_wp2_with (fail)
      refine done_mk ?_ rfl (Ext.refl _)
      rfl
    case fina =>
      intro x U hU
      simp only [allV, depV, One, dstOf, readDst, asBool, VP.is, VP.any, VP.row, VP.ptr, VP.blk, VP.ex, VP.and, VP.of, List.getD_cons_zero, List.getD_cons_succ]
      intro d0
      intro d1
      intro d2
      intro d3
      intro d4
      intro d5
      intro d6
      intro d7
      intro d8
      intro d9
      intro d10
      simp only [d0, d1, d2, d3, d4, d5, d6, d7, d8, d9, d10]
      clear d0 d1 d2 d3 d4 d5 d6 d7 d8 d9 d10
      have LU := LL.out.ext hU
      have cq := (LU.q.cell ix).trans CPL.out
      have fq := LU.q.frozen ix
      gi_wp2_with fail
      have hE2 : Ext w1 (U.setCell ⟨z1, ix, none⟩ (.int .i64 (bk9.length : Int))) := (hE9.trans hU).set (p := ⟨z1, ix, none⟩) (by show w1.heap.size ≤ z1; omega) _
      have b52 := (b59.ext hU).far (p := ⟨z1, ix, none⟩) (by show z1 + 1 + 1 + 1 ≠ z1; omega) (.int .i64 (bk9.length : Int))
      refine ⟨KeepsFrom.trans hk9 (KeepsFrom.trans (KeepsOthers.from ⟨hU.size, fun k o hk _ => (hU.block (Array.getElem?_eq_some_iff.1 hk).1).trans hk⟩ _) ((KeepsOthers.setCell _ _ _).from _)), ⟨fun _ => by rw [b52.cell]; rfl, fun _ => (HMEM.out.ext hx1).ext hE2⟩,
        ⟨⟨.slice vA bk9.length vc, ?_⟩, (b49.ext hU).far (by show z1 + 1 + 1 ≠ z1; omega) _, b52, hE2, by have := hU.size; simp; omega⟩⟩
      rw [hsn]
      dsimp only
      refine ⟨LU.k.far (by show z1 + 1 ≠ z1; omega) _, LU.r.kept (grown_set U z1 ix _) (.inr (own_ne_blk LU.r LU.q (by decide))), ?_⟩
      have hset := LU.q.set_ ix (.int .i64 (bk9.length : Int))
      have e : (nums .i64 (lst ps pre).pl).toArray.setIfInBounds ix (.int .i64 (bk9.length : Int)) = (nums .i64 ((lst ps pre).pl.set ix (bk9.length : Int))).toArray := by simp [nums, List.map_set]
      rw [e] at hset
      exact hset
  case done =>
    rintro D ys W hD hys hI hK
    obtain ⟨v, L⟩ := hI.ex
    have q4 := hI.b4.cell 0
    have hn2 : ∀ r, some D = some r → ∃ o : Obj, W.heap[r]? = some o ∧ o.isCells = false := fun r e => by cases e; exact ⟨_, hK, rfl⟩
    rw [hys] at L
    gi_wp2
    refine ⟨by simp, .inl ⟨_, _, rfl, run_takeDeferred hK, ?_⟩⟩
    exact ⟨_, results_tmp2 rfl _ _ _, z1 + 1, z1, z1, v, rfl, ⟨blk_noncells L.k (grownBy_putObj' W D _) hn2, ownsRow_putObj L.r _ hK rfl, blk_noncells L.q (grownBy_putObj' W D _) hn2⟩, hx1.trans (hI.ext.grown (grownBy_putObj' W D _) (fun r e => by cases e; omega)), by have := hx1.size; omega⟩
end Go.Proofs.Ytjlhfmedaandeaa

/- link.linked of a row that may not be; link.Far. -/
namespace Go.Proofs.Ytjlhfmedaandeaa
open Go.RowKit Go.ChangeShapes Go.WideShapes
set_option linter.unusedVariables false
set_option linter.unusedSimpArgs false
attribute [local go_sem] Oper.semAt_some

set_option maxRecDepth 100000 in
theorem linked_no (A : Option Addr) (n c : Nat) (ps : List Sy) (w : World) (hp : ps.length = n) (hok : ∀ i ∈ ps, i.ok) (hn : n ≤ maxLen) (hmay : mayL ps = false) (hM : InM w A (sc ps)) :
    CallsIn .wide 3 Try.prog 43 #[.slice A n c] w fun e w' => e = .returned (.tuple #[.pointer none, .bool false]) ∧ Ext w w' := by
  have HMay := Lib.hid (codeMay A n c ps w hp hok hn hM)
  rw [hmay] at HMay
  clear hp hM hmay hok
  refine callsIn_of_wp Try.func43 rfl trivial ?_ rfl
  simp only [Try.ntmps43, List.size_toArray, List.length_cons, List.length_nil, Nat.reduceAdd, Nat.reduceSub, Array.replicate_succ, Array.replicate_zero, List.push_toArray, List.append_toArray, List.nil_append, List.cons_append]
  gi_wp2_with (refine ⟨trivial, ?_⟩; gi_at_call 24; refine ((callsIn_wide (n := 2)).2 HMay.out).mono ?_; rintro e w1 ⟨rfl, hx1⟩)
  go_ret2
  exact ⟨rfl, hx1⟩
theorem linkedNo (A : Option Addr) (n c : Nat) (ps : List Sy) (w : World) (hp : ps.length = n) (hok : ∀ i ∈ ps, i.ok) (hn : n ≤ maxLen) (hmay : mayL ps = false) (hM : InM w A (sc ps)) :
    Calls Try.prog 43 #[.slice A n c] w fun e w' => e = .returned (.tuple #[.pointer none, .bool false]) ∧ Ext w w' := callsIn_wide.1 (linked_no A n c ps w hp hok hn hmay hM)
def lall (ps : List Sy) : LSt := lst ps (List.range ps.length).reverse
theorem linkedYes (A : Option Addr) (n c : Nat) (ps : List Sy) (w : World) (hp : ps.length = n) (hok : ∀ i ∈ ps, i.ok) (hmay : mayL ps = true) (hM : InM w A (sc ps)) :
    Calls Try.prog 43 #[.slice A n c] w fun e w' => ∃ gk gp base v, e = .returned (.tuple #[.pointer (some ⟨gk, 0, none⟩), .bool true]) ∧ LK gk gp n base (lall ps).bk (lall ps).pl (lall ps).far v w' ∧ Ext w w' ∧ w.heap.size ≤ base := by
  have h := callsIn_wide.1 (linked_in A n c ps w hp hok hmay hM)
  unfold lall
  rw [hp]
  exact h
/-- How many instructions of a row are far. -/
def farT (ps : List Sy) : Int := if mayL ps = true then (lall ps).far else 0
set_option maxRecDepth 100000 in
theorem linkFar (A : Option Addr) (n c : Nat) (ps : List Sy) (w : World) (hp : ps.length = n) (hok : ∀ i ∈ ps, i.ok) (hn : n ≤ maxLen) (hM : InM w A (sc ps)) :
    Calls Try.prog 21 #[.slice A n c] w fun e w' => e = .returned (.int .i64 (farT ps)) ∧ Ext w w' := by
  cases hmay : mayL ps with
  | false =>
    have H := Lib.hid (linkedNo A n c ps w hp hok hn hmay hM)
    have hf : farT ps = 0 := by unfold farT; rw [hmay]; rfl
    rw [hf]
    clear hp hok hn hM hmay hf
    go_enter Try.func21, Try.ntmps21
    go_wp2_with fail
    refine H.out.mono ?_
    rintro e w1 ⟨rfl, hx1⟩
    go_wp2_with fail
    go_ret
    exact ⟨rfl, hx1⟩
  | true =>
    have H := Lib.hid (linkedYes A n c ps w hp hok hmay hM)
    have hf : farT ps = (lall ps).far := by unfold farT; rw [hmay]; rfl
    rw [hf]
    generalize lall ps = st at *
    clear hp hok hn hM hmay hf
    go_enter Try.func21, Try.ntmps21
    go_wp2_with fail
    refine H.out.mono ?_
    rintro e w1 ⟨gk, gp, base, v, rfl, L, hx1, _⟩
    have c0 := L.k.cell 2
    go_wp2_with fail
    go_ret
    exact ⟨rfl, hx1⟩
end Go.Proofs.Ytjlhfmedaandeaa

/- slices.Reverse of instructions. -/
namespace Go.Proofs.Ytjlhfmedaandeaa
open Go.RowKit Go.ChangeShapes Go.WideShapes
set_option linter.unusedVariables false
set_option linter.unusedSimpArgs false
theorem set4 : ∀ (l : List Ins) (k : Nat) (X : Ins), k < l.length → ((((pc l).set (k * 4) (.int .u16 X.code)).set (k * 4 + 1) (.int .u8 X.jt)).set (k * 4 + 2) (.int .u8 X.jf)).set (k * 4 + 3) (.int .u32 X.k) = pc (l.set k X)
  | [], _, _, h => by simp at h
  | i :: ps, 0, X, _ => by
    rw [pc_cons, List.set_cons_zero, pc_cons]
    rfl
  | i :: ps, k + 1, X, h => by
    have ih := set4 ps k X (by simpa using h)
    rw [pc_cons, List.set_cons_succ, pc_cons, ← ih]
    rw [show (k + 1) * 4 = k * 4 + 1 + 1 + 1 + 1 by omega, show k * 4 + 1 + 1 + 1 + 1 + 1 = (k * 4 + 1) + 1 + 1 + 1 + 1 by omega, show k * 4 + 1 + 1 + 1 + 1 + 2 = (k * 4 + 2) + 1 + 1 + 1 + 1 by omega, show k * 4 + 1 + 1 + 1 + 1 + 3 = (k * 4 + 3) + 1 + 1 + 1 + 1 by omega]
    simp only [Ins.cells, List.cons_append, List.nil_append, List.set_cons_succ]
theorem set4_more (l : List Ins) (more : List Value) (k : Nat) (X : Ins) (hk : k < l.length) :
    (((((pc l ++ more).toArray.setIfInBounds (k * 4) (.int .u16 X.code)).setIfInBounds (k * 4 + 1) (.int .u8 X.jt)).setIfInBounds (k * 4 + 2) (.int .u8 X.jf)).setIfInBounds (k * 4 + 3) (.int .u32 X.k)) = (pc (l.set k X) ++ more).toArray := by
  have hl := pc_length l
  apply Array.toList_inj.1
  simp only [Array.toList_setIfInBounds, List.toList_toArray]
  rw [List.set_append_left _ _ (by omega), List.set_append_left _ _ (by rw [List.length_set]; omega), List.set_append_left _ _ (by rw [List.length_set, List.length_set]; omega), List.set_append_left _ _ (by rw [List.length_set, List.length_set, List.length_set]; omega), set4 l k X hk]
theorem getD_setI (l : List Ins) (i k : Nat) (a : Ins) (h : k < l.length) : (l.set i a).getD k zeroI = if i = k then a else l.getD k zeroI := by
  simp only [List.getD_eq_getElem?_getD, List.getElem?_set]
  by_cases e : i = k
  · subst e; simp [h]
  · simp [e]
set_option maxHeartbeats 1000000 in
set_option maxRecDepth 100000 in
theorem reverseI (g m c : Nat) (hm : m ≤ 400000) (t : TypeId) (cur : List Value) (l0 : List Ins) (hl : l0.length = m) (hc : ∃ more, cur = pc l0 ++ more) (W : World) (hB : Blk W g t cur.toArray) :
    Calls Try.prog 44 #[.slice (some ⟨g, 0, none⟩) m c] W fun e w' => (∃ u, e = .returned u) ∧ W.grownBy w' (some g) ∧ ∃ more, Blk w' g t (pc l0.reverse ++ more).toArray := by
  obtain ⟨more, rfl⟩ := hc
  have HL := Lib.hid hl
  clear hl
  have w0 : IntKind.i64.wrap ((m : Int) - 1) = (m : Int) - 1 := IntWalk.i64_in _ (by omega)
  go_enter Try.func44, Try.ntmps44
  go_wp2_with fail
  go_loopw [2, 3] (fun a b wr => ∃ (i : Nat) (y : Int) (l : List Ins), y = (m : Int) - 1 - i ∧ 2 * i ≤ m + 1 ∧ a = .int .i64 i ∧ b = .int .i64 y ∧ l.length = m ∧ (∀ k, k < m → l.getD k zeroI = if k < i ∨ m - 1 - k < i then l0.getD (m - 1 - k) zeroI else l0.getD k zeroI) ∧ W.grownBy wr (some g) ∧ Blk wr g t (pc l ++ more).toArray) (fun a b _ => (intOf b - intOf a).toNat)
  case atStart => exact ⟨0, _, l0, by omega, by omega, rfl, rfl, HL.out, fun k _ => by simp, ⟨rfl, rfl, rfl, Nat.le_refl _, fun _ _ _ => rfl⟩, hB⟩
  case round =>
    clear hB w0
    obtain ⟨i, y, l, hy, hi, rfl, rfl, hll, hlk, hg, hB⟩ := hrel
    have HLL := Lib.hid hll
    have HLK := Lib.hid hlk
    by_cases hlt : (i : Int) < y
    · obtain ⟨j, rfl⟩ : ∃ j : Nat, y = j := ⟨y.toNat, by omega⟩
      have hij : i < j := by omega
      have hjm : j < m := by omega
      have hiL : i < l.length := by omega
      have hjL : j < l.length := by omega
      have CI : ∀ r, r < 4 → ((pc l ++ more).toArray)[i * 4 + r]? = l[i].cells.toList[r]? := fun r hr => by
        rw [List.getElem?_toArray, List.getElem?_append_left (by rw [pc_length]; omega), pc_at l i r hiL hr]
      have CJ : ∀ r, r < 4 → ((pc l ++ more).toArray)[j * 4 + r]? = l[j].cells.toList[r]? := fun r hr => by
        rw [List.getElem?_toArray, List.getElem?_append_left (by rw [pc_length]; omega), pc_at l j r hjL hr]
      have p0 := (hB.cell (i * 4)).trans (CI 0 (by omega))
      have p1 := (hB.cell (i * 4 + 1)).trans (CI 1 (by omega))
      have p2 := (hB.cell (i * 4 + 2)).trans (CI 2 (by omega))
      have p3 := (hB.cell (i * 4 + 3)).trans (CI 3 (by omega))
      have q0 := (hB.cell (j * 4)).trans (CJ 0 (by omega))
      have q1 := (hB.cell (j * 4 + 1)).trans (CJ 1 (by omega))
      have q2 := (hB.cell (j * 4 + 2)).trans (CJ 2 (by omega))
      have q3 := (hB.cell (j * 4 + 3)).trans (CJ 3 (by omega))
      have f0 := hB.frozen (i * 4)
      have f1 := hB.frozen (i * 4 + 1)
      have f2 := hB.frozen (i * 4 + 2)
      have f3 := hB.frozen (i * 4 + 3)
      have f4 := hB.frozen (j * 4)
      have f5 := hB.frozen (j * 4 + 1)
      have f6 := hB.frozen (j * 4 + 2)
      have f7 := hB.frozen (j * 4 + 3)
      have i0 : (0 : Int) ≤ i := by omega
      have i1 : (i : Int) < m := by omega
      have j0 : (0 : Int) ≤ j := by omega
      have j1 : (j : Int) < m := by omega
      have j2 : (j : Int) ≤ 400000 := by omega
      have j3 : (i : Int) < j := by omega
      have HY := Lib.hid hy
      clear CI CJ hll hlk hy
      have gi : l.getD i zeroI = l[i] := by rw [List.getD_eq_getElem?_getD, List.getElem?_eq_getElem hiL]; rfl
      have gj : l.getD j zeroI = l[j] := by rw [List.getD_eq_getElem?_getD, List.getElem?_eq_getElem hjL]; rfl
      have GI := Lib.hid gi
      have GJ := Lib.hid gj
      have HG := Lib.hid hg
      have HB := Lib.hid hB
      clear gi gj hg hB
      generalize l[i] = P at *
      generalize l[j] = R at *
      obtain ⟨pc0, pj, pf, pk⟩ := P
      obtain ⟨rc0, rj, rf, rk⟩ := R
      simp only [Ins.cells, List.getElem?_cons_zero, List.getElem?_cons_succ] at p0 p1 p2 p3 q0 q1 q2 q3
      go_wp2_with fail
      go_region
      have b1 := (((HB.out.set_ (i * 4) (.int .u16 rc0)).set_ (i * 4 + 1) (.int .u8 rj)).set_ (i * 4 + 2) (.int .u8 rf)).set_ (i * 4 + 3) (.int .u32 rk)
      rw [set4_more l more i ⟨rc0, rj, rf, rk⟩ hiL] at b1
      have b2 := (((b1.set_ (j * 4) (.int .u16 pc0)).set_ (j * 4 + 1) (.int .u8 pj)).set_ (j * 4 + 2) (.int .u8 pf)).set_ (j * 4 + 3) (.int .u32 pk)
      rw [set4_more (l.set i ⟨rc0, rj, rf, rk⟩) more j ⟨pc0, pj, pf, pk⟩ (by rw [List.length_set]; exact hjL)] at b2
      have hg2 := ((((((((HG.out.trans (grown_set wr g (i * 4) (.int .u16 rc0))).trans (grown_set _ g (i * 4 + 1) (.int .u8 rj))).trans (grown_set _ g (i * 4 + 2) (.int .u8 rf))).trans (grown_set _ g (i * 4 + 3) (.int .u32 rk))).trans (grown_set _ g (j * 4) (.int .u16 pc0))).trans (grown_set _ g (j * 4 + 1) (.int .u8 pj))).trans (grown_set _ g (j * 4 + 2) (.int .u8 pf))).trans (grown_set _ g (j * 4 + 3) (.int .u32 pk)))
      have B2 := Lib.hid (b2.drew)
      have G2 := Lib.hid (hg2.trans (grown_any (grown_drew _) (some g)))
      have w5 : IntKind.i64.wrap ((j : Int) - 1) = (j : Int) - 1 := IntWalk.i64_in _ (by omega)
      clear b1 b2 hg2 p0 p1 p2 p3 q0 q1 q2 q3 f0 f1 f2 f3 f4 f5 f6 f7
      go_wp2_with fail
      go_roundw
      case rel =>
        have hY := HY.out
        have hl2 := HLL.out
        refine ⟨i + 1, (j : Int) - 1, (l.set i ⟨rc0, rj, rf, rk⟩).set j ⟨pc0, pj, pf, pk⟩, by omega, by omega, by go_num, rfl, by rw [List.length_set, List.length_set]; exact hl2, fun k hk => ?_, G2.out, B2.out⟩
        have hi' := HLK.out i (by omega)
        have hj' := HLK.out j (by omega)
        rw [GI.out, if_neg (by omega)] at hi'
        rw [GJ.out, if_neg (by omega)] at hj'
        rw [getD_setI _ _ _ _ (by rw [List.length_set]; omega), getD_setI _ _ _ _ (by omega)]
        by_cases e1 : j = k
        · subst e1
          rw [if_pos rfl, if_pos (by omega), hi', show m - 1 - j = i by omega]
        · rw [if_neg e1]
          by_cases e2 : i = k
          · subst e2
            rw [if_pos rfl, if_pos (by omega), hj', show m - 1 - i = j by omega]
          · rw [if_neg e2, HLK.out k hk]
            by_cases e3 : k < i ∨ m - 1 - k < i
            · rw [if_pos e3, if_pos (by omega)]
            · rw [if_neg e3, if_neg (by omega)]
      case measure => simp [intOf]; omega
    · have hrev : l = l0.reverse := by
        refine List.ext_getElem (by rw [hll, List.length_reverse, HL.out]) fun k h1 h2 => ?_
        have h := hlk k (by omega)
        have hk0 : k < l.length := h1
        have e1 : l.getD k zeroI = l[k] := by rw [List.getD_eq_getElem?_getD, List.getElem?_eq_getElem hk0]; rfl
        have hl0 := HL.out
        rw [List.getElem_reverse, ← e1, h]
        have e2 : ∀ q, (hq : q < l0.length) → l0.getD q zeroI = l0[q] := fun q hq => by rw [List.getD_eq_getElem?_getD, List.getElem?_eq_getElem hq]; rfl
        by_cases e3 : k < i ∨ m - 1 - k < i
        · rw [if_pos e3, e2 _ (by omega)]
          congr 1
          omega
        · rw [if_neg e3, e2 _ (by omega)]
          congr 1
          omega
      subst hrev
      have HG := Lib.hid hg
      have HB := Lib.hid hB
      clear hg hB hlk hll
      go_wp2_with fail
      go_end0
      exact ⟨⟨_, rfl⟩, HG.out, more, HB.out⟩
end Go.Proofs.Ytjlhfmedaandeaa

/- link.Link. -/
namespace Go.Proofs.Ytjlhfmedaandeaa
open Go.RowKit Go.ChangeShapes Go.WideShapes
set_option linter.unusedVariables false
set_option linter.unusedSimpArgs false

set_option maxRecDepth 100000 in
theorem linkNoI (A : Option Addr) (n c : Nat) (ps : List Sy) (w : World) (hp : ps.length = n) (hok : ∀ i ∈ ps, i.ok) (hn : n ≤ maxLen) (hM : InM w A (sc ps)) (h : mayL ps = false) :
    Calls Try.prog 16 #[.slice A n c] w fun e w' => e = .returned (.tuple #[.slice none 0 0, .int .i64 250]) ∧ Ext w w' := by
  have H := Lib.hid (linkedNo A n c ps w hp hok hn h hM)
  clear hp hok hn hM h
  go_enter Try.func16, Try.ntmps16
  go_wp2_with fail
  refine H.out.mono ?_
  rintro e w1 ⟨rfl, hx1⟩
  go_wp2_with fail
  go_ret2
  exact ⟨rfl, hx1⟩
set_option maxRecDepth 100000 in
theorem linkBigI (A : Option Addr) (n c : Nat) (ps : List Sy) (w : World) (hp : ps.length = n) (hok : ∀ i ∈ ps, i.ok) (hM : InM w A (sc ps)) (h : mayL ps = true) (hb : 4096 < (lall ps).bk.length) :
    Calls Try.prog 16 #[.slice A n c] w fun e w' => e = .returned (.tuple #[.slice none 0 0, .int .i64 270]) ∧ Ext w w' := by
  have H := Lib.hid (linkedYes A n c ps w hp hok h hM)
  generalize lall ps = st at *
  have y1 : decide ((4096 : Int) < st.bk.length) = true := by simp; omega
  clear hp hok hM h
  go_enter Try.func16, Try.ntmps16
  go_wp2_with fail
  refine H.out.mono ?_
  rintro e w1 ⟨gk, gp, base, v, rfl, L, hx1, hbs⟩
  obtain ⟨vA, vc, rfl⟩ := L.val
  have c0 := L.k.cell 0
  go_wp2_with fail
  go_ret2
  exact ⟨rfl, hx1⟩
set_option maxRecDepth 100000 in
theorem linkYesI (A : Option Addr) (n c : Nat) (ps : List Sy) (w : World) (hp : ps.length = n) (hok : ∀ i ∈ ps, i.ok) (hM : InM w A (sc ps)) (h : mayL ps = true) (hb : (lall ps).bk.length ≤ 4096) :
    Calls Try.prog 16 #[.slice A n c] w fun e w' => ∃ g cv more, e = .returned (.tuple #[.slice (some ⟨g, 0, none⟩) (lall ps).bk.length cv, .int .i64 0]) ∧ Blk w' g 43 (pc (lall ps).bk.reverse ++ more).toArray ∧ w.heap.size ≤ g ∧ Ext w w' := by
  have H := Lib.hid (linkedYes A n c ps w hp hok h hM)
  have h1 : 1 ≤ (lall ps).bk.length := by
    have := (lst_bd ps (List.range ps.length).reverse).h6
    have h2 := (mayL_of h).l1
    rw [List.length_reverse, List.length_range] at this
    unfold lall
    omega
  generalize lall ps = st at *
  have y1 : decide ((4096 : Int) < st.bk.length) = false := by simp; omega
  clear hp hok hM h
  go_enter Try.func16, Try.ntmps16
  go_wp2_with fail
  refine H.out.mono ?_
  rintro e w1 ⟨gk, gp, base, v, rfl, L, hx1, hbs⟩
  have c0 := L.k.cell 0
  obtain ⟨hlen, ⟨hv, h0⟩ | ⟨g, cap, cur, rfl, hbb, hh, hn', hm', hs', htk⟩⟩ := L.r
  · omega
  have hBg : Blk w1 g 43 (cur.toList).toArray := by unfold Blk; simpa using hh
  have hne : gk ≠ g := fun e => by
    subst e
    have h3 := L.k
    unfold Blk at h3
    rw [hh] at h3
    injection h3 with h3
    injection h3 with _ h3
    exact absurd h3 (by decide)
  have hcur : ∃ more, cur.toList = pc st.bk ++ more := ⟨cur.toList.drop (st.bk.length * 4), by rw [← htk, List.take_append_drop]⟩
  have HREV := Lib.hid (reverseI g st.bk.length cap (by omega) _ cur.toList st.bk rfl hcur w1 hBg)
  have HK := Lib.hid L.k
  clear hlen hh hs' htk hBg hcur L
  go_wp2_with fail
  refine HREV.out.mono ?_
  rintro e w2 ⟨⟨u, rfl⟩, hg2, more, hB2⟩
  have c2 := (HK.out.grown hg2 (fun e => by injection e with e; exact hne e)).cell 0
  clear c0
  go_wp2_with fail
  go_ret2
  exact ⟨g, cap, more, rfl, hB2, by omega, hx1.grown hg2 (fun k e => by cases e; omega)⟩
end Go.Proofs.Ytjlhfmedaandeaa
