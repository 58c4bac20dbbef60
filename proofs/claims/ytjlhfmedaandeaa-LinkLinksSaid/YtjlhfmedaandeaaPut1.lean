import Derived.Test.YtjlhfmedaandeaaBack2
import Derived.Test.YtjlhfmedaandeaaPrg
import Derived.Test.YtjlhfmedaandeaaTells3
import Derived.Test.YtjlhfmedaandeaaAppend2
import Derived.Test.YtjlhfmedaandeaaMonoR
import Derived.Test.YtjlhfmedaandeaaChunk
/- link.linker.put: instructions put in front of those that are there. -/
namespace Go.Proofs.Ytjlhfmedaandeaa
open Go.RowKit Go.ChangeShapes Go.WideShapes
set_option linter.unusedVariables false
set_option linter.unusedSimpArgs false
attribute [local go_sem] Oper.semAt_some

/-- What else than block g, and one own row, stays. -/
structure PU (g : Nat) (ob : Option Nat) (W W' : World) : Prop where
  os : W'.os = W.os
  tape : W'.tape = W.tape
  output : W'.output = W.output
  size : W.heap.size ≤ W'.heap.size
  keep : ∀ b, b < W.heap.size → b ≠ g → ob ≠ some b → W'.heap[b]? = W.heap[b]?
/-- What an append in a region leaves. -/
structure RA (ob : Option Nat) (base : Nat) (v : Value) (n : Nat) (xs ys : List Value) (W W' : World) : Prop where
  g : W.grownBy W' ob
  old : W.ownsRow base 43 4 v n xs → W'.ownsRow base 43 4 v n xs
  new : ∀ v', W.ownsRow base 43 4 v' (n + 1) (xs ++ ys) → W'.ownsRow base 43 4 v' (n + 1) (xs ++ ys)
theorem grown_any {W W' : World} (h : W.grownBy W' none) (ob : Option Nat) : W.grownBy W' ob := ⟨h.os, h.tape, h.output, h.size, fun b hb _ => h.block b hb (fun e => by cases e)⟩
theorem RA.of_none {ob : Option Nat} {base : Nat} {v : Value} {n : Nat} {xs ys : List Value} {W W' : World} (h : W.grownBy W' none) : RA ob base v n xs ys W W' :=
  have k : ∀ v'' j zs, W.ownsRow base 43 4 v'' j zs → W'.ownsRow base 43 4 v'' j zs := fun v'' j zs q => q.kept h (by cases v''.ownBlock; exact .inl rfl; exact .inr (fun e => by cases e))
  ⟨grown_any h ob, k _ _ _, fun _ => k _ _ _⟩
instance (ob : Option Nat) (base : Nat) (v : Value) (n : Nat) (xs ys : List Value) : MR.Pre (RA ob base v n xs ys) where
  refl W := RA.of_none ⟨rfl, rfl, rfl, Nat.le_refl _, fun _ _ _ => rfl⟩
  trans a b c h k := ⟨h.g.trans k.g, fun q => k.old (h.old q), fun v' q => k.new v' (h.new v' q)⟩
  drew W := RA.of_none (grown_drew W)
theorem own_ne_blk {W : World} {base n : Nat} {e t : TypeId} {size : Nat} {v : Value} {xs : List Value} {g : Nat} {cs : Array Value} (h : W.ownsRow base e size v n xs) (k : Blk W g t cs) (hne : e ≠ t) : v.ownBlock ≠ some g := fun hb => by
  rcases h.2 with ⟨hv, _⟩ | ⟨g', cap, cur, hv, _, hh, _⟩
  · rw [hv] at hb; cases hb
  · rw [hv] at hb
    injection hb with hb
    have hb : g' = g := hb
    subst hb
    unfold Blk at k
    rw [hh] at k
    injection k with k
    injection k with _ k2
    exact hne k2
/-- A row of one that is new. -/
def newRow {ob : Option Nat} {base : Nat} {v : Value} {n : Nat} {xs ys : List Value} (cs : Array Value) : MR.VP (RA ob base v n xs ys) :=
  ⟨fun u U => ∃ gn, u = .slice (some ⟨gn, 0, none⟩) 1 1 ∧ Blk U gn 43 cs ∧ ob ≠ some gn, fun _ _ _ ⟨gn, h1, h2, h3⟩ e => ⟨gn, h1, h2.grown e.g (fun q => h3 q.symm), h3⟩⟩
/-- The row behind the append. -/
def rowOf {ob : Option Nat} {base : Nat} {v : Value} {n : Nat} {xs ys : List Value} (z : Nat) : MR.VP (RA ob base v n xs ys) :=
  ⟨fun u U => U.ownsRow base 43 4 u (n + 1) (xs ++ ys) ∧ (u.ownBlock = ob ∨ ∀ b, u.ownBlock = some b → z ≤ b), fun _ _ _ h e => ⟨e.new _ h.1, h.2⟩⟩
/-- What holds between two rounds of put. -/
structure PutI (w : World) (z gk : Nat) (pv : Value) (far : Int) (bk : List Ins) (v : Value) (base : Nat) (A : Option Addr) (m c : Nat) (xs : List Ins) (pre : List Nat) (W : World) : Prop where
  ex : ∃ v', Blk W gk 69 #[v', pv, .int .i64 far] ∧ W.ownsRow base 43 4 v' (bk.length + pre.length) (pc (bk ++ pre.map fun i => xs.getD i zeroI)) ∧ (v'.ownBlock = v.ownBlock ∨ ∀ b, v'.ownBlock = some b → w.heap.size ≤ b)
  box : Blk W w.heap.size 64 #[.pointer (some ⟨gk, 0, none⟩)]
  box2 : Blk W (w.heap.size + 1) 33 #[.slice A m c]
  pu : PU gk v.ownBlock w W
  z : z ≤ W.heap.size
theorem PU.noncells {g z : Nat} {ob : Option Nat} {w W W' : World} {row : Option Nat} (h : PU g ob w W) (hz : w.heap.size ≤ z) (hg : W.grownBy W' row) (hr : ∀ r, row = some r → z ≤ r) : PU g ob w W' :=
  ⟨hg.os.trans h.os, hg.tape.trans h.tape, hg.output.trans h.output, Nat.le_trans h.size hg.size, fun b hb h1 h2 => (hg.block b (Nat.lt_of_lt_of_le hb h.size) (fun e => by have := hr b e.symm; omega)).trans (h.keep b hb h1 h2)⟩
theorem PutI_own (w : World) (z gk : Nat) (hz : w.heap.size ≤ z) (pv : Value) (far : Int) (bk : List Ins) (v : Value) (base : Nat) (A : Option Addr) (m c : Nat) (xs : List Ins) : OwnFrom z (PutI w z gk pv far bk v base A m c xs) := fun pre W W' row h hg hr => by
  have hn : ∀ r, row = some r → ∃ o : Obj, W.heap[r]? = some o ∧ o.isCells = false := fun r e => (hr r e).2
  obtain ⟨v', h1, h2, h3⟩ := h.ex
  exact ⟨⟨v', blk_noncells h1 hg hn, own_noncells h2 hg hn, h3⟩, blk_noncells h.box hg hn, blk_noncells h.box2 hg hn, h.pu.noncells hz hg (fun r e => (hr r e).1), Nat.le_trans h.z hg.size⟩
def putF (gk : Nat) (A : Option Addr) (m c z : Nat) (g x : Nat) (co jt jf kk : Int) : Act :=
  { tmps := #[.pointer (some ⟨gk, 0, none⟩), .slice A m c, .pointer (some ⟨z, 0, none⟩), undef, undef, .pointer (some ⟨g, 0, none⟩), .slice A m c, .func (.func 107) #[] #[.pointer (some ⟨z + 1, 0, none⟩)], .int .i64 x, .agg #[.int .u16 co, .int .u8 jt, .int .u8 jf, .int .u32 kk], undef, undef, undef, undef, undef, undef, undef, undef, undef, undef], defers := [] }
def PutA (gk : Nat) (A : Option Addr) (m c z : Nat) (xs : List Ins) (x z0 : Nat) (a1 : Act) (W : World) : Prop :=
  ∃ g co jt jf kk, z0 ≤ g ∧ xs.getD x zeroI = ⟨co, jt, jf, kk⟩ ∧ a1 = putF gk A m c z g x co jt jf kk ∧ Blk W g 43 #[.int .u16 co, .int .u8 jt, .int .u8 jf, .int .u32 kk]
set_option maxHeartbeats 2000000 in
set_option maxRecDepth 100000 in
theorem put_in (gk : Nat) (pv : Value) (far : Int) (bk : List Ins) (v : Value) (base : Nat) (A : Option Addr) (m c : Nat) (xs : List Ins) (hx : xs.length = m) (hm : m ≤ 3) (hb : bk.length ≤ 500000) (w : World) (hbase : base ≤ w.heap.size)
    (hk : Blk w gk 69 #[v, pv, .int .i64 far]) (ho : w.ownsRow base 43 4 v bk.length (pc bk)) (hM : InM w A (pc xs)) (hA : ∀ a, A = some a → a.block < w.heap.size ∧ a.block ≠ gk ∧ v.ownBlock ≠ some a.block) :
    CallsIn .wide 3 Try.prog 81 #[.pointer (some ⟨gk, 0, none⟩), .slice A m c] w fun e w' => (∃ u, e = .returned u) ∧ ∃ v', Blk w' gk 69 #[v', pv, .int .i64 far] ∧ w'.ownsRow base 43 4 v' (bk.length + m) (pc (bk ++ xs.reverse)) ∧
      PU gk v.ownBlock w w' ∧ (v'.ownBlock = v.ownBlock ∨ ∀ b, v'.ownBlock = some b → w.heap.size ≤ b) := by
  have HX := Lib.hid hx
  refine callsIn_of_wp_marks Try.func81 rfl trivial ?_ rfl
  simp only [Try.ntmps81, List.size_toArray, List.length_cons, List.length_nil, Nat.reduceAdd, Nat.reduceSub, Array.replicate_succ, Array.replicate_zero, List.push_toArray, List.append_toArray, List.nil_append, List.cons_append]
  gi_wp2_with (refine ⟨trivial, ?_⟩; gi_at_call 94; refine (backI_in A m c _).mono ?_; rintro e w' ⟨rfl, rfl⟩)
  have bK : Blk ((w.alloc (.cells #[.pointer (some ⟨gk, 0, none⟩)] 64)).alloc (.cells #[.slice A m c] 33)) w.heap.size 64 #[.pointer (some ⟨gk, 0, none⟩)] := (Blk.new w _ _).alloc _
  have bS : Blk ((w.alloc (.cells #[.pointer (some ⟨gk, 0, none⟩)] 64)).alloc (.cells #[.slice A m c] 33)) (w.heap.size + 1) 33 #[.slice A m c] := Blk.new_ (by simp)
  have hE0 : Ext w ((w.alloc (.cells #[.pointer (some ⟨gk, 0, none⟩)] 64)).alloc (.cells #[.slice A m c] 33)) := ((Ext.refl w).alloc _).alloc _
  have hz : ((w.alloc (.cells #[.pointer (some ⟨gk, 0, none⟩)] 64)).alloc (.cells #[.slice A m c] 33)).heap.size = w.heap.size + 2 := by simp
  generalize (w.alloc (.cells #[.pointer (some ⟨gk, 0, none⟩)] 64)).alloc (.cells #[.slice A m c] 33) = w0 at *
  have hM0 : InM w0 A (pc xs) := hM.ext hE0
  have hgk : gk < w.heap.size := hk.lt
  refine rangeFunc_tellsA rfl (by decide) (gf := 107) (lb := #[.pointer (some ⟨w.heap.size + 1, 0, none⟩)]) rfl trivial (enters_of Try.func107 (by kernel_rfl) rfl)
    (backI_tells (w.heap.size + 1) m c A xs HX.out (by omega) w0 bS.lt (by rw [bS.cell]; rfl) hM0) (fun h k => h.trans k)
    (fun W l o o' _ hl hc _ => ⟨fun hv => cell_kept hv (grownBy_putObj' W l o') (fun r e => by cases e; exact ⟨o, hl, hc⟩), fun hv j u hu => by
      obtain ⟨b, off, e, hcc⟩ := hv j u hu
      exact ⟨b, off, e, cell_kept hcc (grownBy_putObj' W l o') (fun r e => by cases e; exact ⟨o, hl, hc⟩)⟩⟩) (Below.refl _ _) (fun _ => rfl)
    (fun x W l o o' hG _ _ => hG)
    (PutI w w0.heap.size gk pv far bk v base A m c xs) (PutI_own w w0.heap.size gk (by omega) pv far bk v base A m c xs)
    ⟨⟨v, hk.ext hE0, by simpa using own_ext ho hE0, .inl rfl⟩, bK, bS, ⟨hE0.os, hE0.tape, hE0.output, hE0.size, fun b hb _ _ => hE0.block hb⟩, Nat.le_refl _⟩
    (PutA gk A m c w.heap.size xs)
    (fun x z0 a1 W l o o' ⟨g, co, jt, jf, kk, h1, h2, h3, h4⟩ hl hc => ⟨g, co, jt, jf, kk, h1, h2, h3, blk_noncells h4 (grownBy_putObj' W l o') (fun r e => by cases e; exact ⟨o, hl, hc⟩)⟩)
    (fun _ _ _ h _ => h) (fun W W' e => ⟨fun h => e.cell h, fun h => h.ext e⟩) ?assign ?body ?done
  case assign =>
    intro l x W K hG hK
    obtain ⟨⟨co, jt, jf, kk⟩, hE⟩ : ∃ E, xs.getD x zeroI = E := ⟨_, rfl⟩
    simp only [hE, Ins.val, Ins.cells]
    gi_wp2
    exact hK _ _ ((Ext.refl W).alloc _) ⟨W.heap.size, co, jt, jf, kk, Nat.le_refl _, hE, rfl, Blk.new _ _ _⟩
  case body =>
    rintro l pre ix W0 W a1 hI0 hI hxm ⟨g, co, jt, jf, kk, hzg, hE, rfl, hbi⟩ hBk hlt
    obtain ⟨v', hkb, hrow, hvo⟩ := hI.ex
    obtain ⟨v0, hkb0, hrow0, _⟩ := hI0.ex
    have e0 : v0 = v' := by
      have h1 := hBk _ _ hkb0 rfl
      unfold Blk at hkb
      rw [hkb] at h1
      injection h1 with h1
      injection h1 with h1
      injection h1 with h1
      injection h1 with h1
      exact h1.symm
    subst e0
    have hng : v0.ownBlock ≠ some g := fun e => by have := (hrow0.lt g e).2; omega
    have hn1 : v0.ownBlock ≠ some w.heap.size := own_ne_blk hrow hI.box (by decide)
    have hn2 : v0.ownBlock ≠ some gk := own_ne_blk hrow hkb (by decide)
    have hn3 : v0.ownBlock ≠ some (w.heap.size + 1) := own_ne_blk hrow hI.box2 (by decide)
    have hbox := hI.box
    have hzW := hI.z
    obtain ⟨n', hn'⟩ : ∃ n', bk.length + pre.length = n' := ⟨_, rfl⟩
    obtain ⟨ys, hys⟩ : ∃ ys, pc (bk ++ pre.map fun i => xs.getD i zeroI) = ys := ⟨_, rfl⟩
    rw [hn', hys] at hrow
    have hb1 : n' + 1 ≤ maxLen := by unfold maxLen; omega
    have hb2 : (n' + 1) * 8 ≤ 140737488355328 := by omega
    obtain ⟨i0, hi, hz0, hz1, hz2⟩ := info_parts info_ins
    have HI := Lib.hid hi; have HZ0 := Lib.hid hz0; have HZ1 := Lib.hid hz1; have HZ2 := Lib.hid hz2
    have hsz : w.heap.size ≤ W.heap.size := hI.pu.size
    clear hi hz0 hz1 hz2 bK bS hM0 hrow0 hkb0 hI0 hBk
    unfold putF
    gi_wp2_with fail
    refine MR.wpIn_region_last (R := (RA v0.ownBlock base v0 n' ys [.int .u16 co, .int .u8 jt, .int .u8 jf, .int .u32 kk])) (fun _ => trivial) rfl [.is (.pointer (some ⟨gk, 0, none⟩)), .is (.pointer (some ⟨gk, 0, none⟩)), .is (.pointer (some ⟨gk, 0, none⟩)), .is (.pointer (some ⟨gk, 0, none⟩)), .is v0, .is (.agg #[.int .u16 co, .int .u8 jt, .int .u8 jf, .int .u32 kk]), (newRow #[.int .u16 co, .int .u8 jt, .int .u8 jf, .int .u32 kk]), (rowOf w.heap.size), .is (.pointer (some ⟨gk, 0, none⟩)), .is (.pointer (some ⟨gk, 0, none⟩))] (by kernel_rfl) (by kernel_rfl) (by kernel_rfl) ?Aa ?hAa ⟨?oa0, ?oa1, ?oa2, ?oa3, ?oa4, ?oa5, ?oa6, ?oa7, ?oa8, ?oa9, trivial⟩ _ rfl rfl ?fina
    case hAa => (intro x; simp only [fillOps, Act.put, List.setIfInBounds_toArray, List.set_cons_zero, List.set_cons_succ, Nat.reduceAdd]; rfl)
    case oa0 =>
      intro x U hU
      simp only [MR.depV, MR.OneIn, dstOf, readDst, asBool, MR.VP.is, MR.VP.any, List.getD_cons_zero, List.getD_cons_succ, newRow, rowOf]
      have c0 := (hbox.grown hU.g (fun e => hn1 e.symm)).cell 0
      gi_wp2_with (fail)
      refine MR.done_mk ?_ rfl (MR.Pre.refl _)
      rfl
    case oa1 =>
      intro x U hU
      simp only [MR.depV, MR.OneIn, dstOf, readDst, asBool, MR.VP.is, MR.VP.any, List.getD_cons_zero, List.getD_cons_succ, newRow, rowOf]
      have c0 := (hbox.grown hU.g (fun e => hn1 e.symm)).cell 0
      gi_wp2_with (fail)
      refine MR.done_mk ?_ rfl (MR.Pre.refl _)
      rfl
    case oa2 =>
      intro x U hU
      simp only [MR.depV, MR.OneIn, dstOf, readDst, asBool, MR.VP.is, MR.VP.any, List.getD_cons_zero, List.getD_cons_succ, newRow, rowOf]
      intro d1
      simp only [d1]
      gi_wp2_with (fail)
      refine MR.done_mk ?_ rfl (MR.Pre.refl _)
      rfl
    case oa3 =>
      intro x U hU
      simp only [MR.depV, MR.OneIn, dstOf, readDst, asBool, MR.VP.is, MR.VP.any, List.getD_cons_zero, List.getD_cons_succ, newRow, rowOf]
      intro d2
      simp only [d2]
      gi_wp2_with (fail)
      refine MR.done_mk ?_ rfl (MR.Pre.refl _)
      rfl
    case oa4 =>
      intro x U hU
      simp only [MR.depV, MR.OneIn, dstOf, readDst, asBool, MR.VP.is, MR.VP.any, List.getD_cons_zero, List.getD_cons_succ, newRow, rowOf]
      intro d3
      simp only [d3]
      have c0 := (hkb.grown hU.g (fun e => hn2 e.symm)).cell 0
      gi_wp2_with (fail)
      refine MR.done_mk ?_ rfl (MR.Pre.refl _)
      rfl
    case oa5 =>
      intro x U hU
      simp only [MR.depV, MR.OneIn, dstOf, readDst, asBool, MR.VP.is, MR.VP.any, List.getD_cons_zero, List.getD_cons_succ, newRow, rowOf]
      have bq := hbi.grown hU.g (fun e => hng e.symm)
      have c0 := bq.cell 0
      have c1 := bq.cell 1
      have c2 := bq.cell 2
      have c3 := bq.cell 3
      gi_wp2_with (fail)
      refine MR.done_mk ?_ rfl (MR.Pre.refl _)
      rfl
    case oa6 =>
      intro x U hU
      simp only [MR.depV, MR.OneIn, dstOf, readDst, asBool, MR.VP.is, MR.VP.any, List.getD_cons_zero, List.getD_cons_succ, newRow, rowOf]
      intro d5
      simp only [d5]
      gi_wp2_with (fail)
      refine MR.done_mk ?_ rfl (RA.of_none (grown_of_ext ((Ext.refl U).alloc _) none))
      exact ⟨U.heap.size, rfl, Blk.new _ _ _, fun e => by have := ((hU.old hrow).lt _ e).2; omega⟩
    case oa7 =>
      intro x U hU
      simp only [MR.depV, MR.OneIn, dstOf, readDst, asBool, MR.VP.is, MR.VP.any, List.getD_cons_zero, List.getD_cons_succ, newRow, rowOf]
      intro d4
      rintro ⟨gn, d6, m6, o6⟩
      simp only [d4, d6]
      gi_wp2_with ((gi_at_builtin; refine wpListIn_append_own2 _ rfl _ _ 33 rfl base 43 i0 _ 4 8 Try.underlying33 HI.out HZ0.out HZ1.out HZ2.out rfl (by decide) v0 n' ys rfl (hU.old hrow) ⟨gn, 0, none⟩ 1 1 [.int .u16 co, .int .u8 jt, .int .u8 jf, .int .u32 kk] rfl rfl (fun j u hj => (InM.ofBlk m6 rfl : InM _ (some ⟨gn, 0, none⟩) [Value.int .u16 co, .int .u8 jt, .int .u8 jf, .int .u32 kk]).add hj) (by simp [Value.oneCell']) hb1 hb2 (by have := hU.g.size; omega) ?_; intro v2 w2 q1 q2 q3 q4 q5))
      refine MR.done_mk ?_ rfl (⟨q2, fun _ => q3, q4⟩)
      exact ⟨q1, q5.imp id (fun q b hb => by have := q b hb; have := hU.g.size; omega)⟩
    case oa8 =>
      intro x U hU
      simp only [MR.depV, MR.OneIn, dstOf, readDst, asBool, MR.VP.is, MR.VP.any, List.getD_cons_zero, List.getD_cons_succ, newRow, rowOf]
      intro d0
      simp only [d0]
      gi_wp2_with (fail)
      refine MR.done_mk ?_ rfl (MR.Pre.refl _)
      rfl
    case oa9 =>
      intro x U hU
      simp only [MR.depV, MR.OneIn, dstOf, readDst, asBool, MR.VP.is, MR.VP.any, List.getD_cons_zero, List.getD_cons_succ, newRow, rowOf]
      intro d8
      simp only [d8]
      gi_wp2_with (fail)
      refine MR.done_mk ?_ rfl (MR.Pre.refl _)
      rfl
    case fina =>
      intro x U hU
      simp only [MR.allV, MR.depV, MR.OneIn, dstOf, readDst, asBool, MR.VP.is, MR.VP.any, List.getD_cons_zero, List.getD_cons_succ, newRow, rowOf]
      intro d0
      intro d1
      intro d2
      intro d3
      intro d4
      intro d5
      rintro ⟨gn, d6, m6, o6⟩
      rintro ⟨m7, o7⟩
      intro d8
      intro d9
      simp only [d0, d1, d2, d3, d4, d5, d6, d8, d9]
      clear d0 d1 d2 d3 d4 d5 d6 d8 d9
      obtain ⟨g', cap', e7⟩ := ownsRow_succ m7
      rw [e7] at m7 o7
      have hkU := hkb.grown hU.g (fun e => hn2 e.symm)
      have c9 := hkU.cell 0
      have f9 := hkU.frozen 0
      simp only [e7]
      gi_wp2_with fail
      have hg2 := grownBy_setCell' U gk (.slice (some ⟨g', 0, none⟩) (n' + 1) cap')
      have hne7 := own_ne_blk m7 hkU (by decide)
      have hbx := (hbox.grown hU.g (fun e => hn1 e.symm)).grown hg2 (fun e => by injection e; omega)
      have hbx2 := (hI.box2.grown hU.g (fun e => hn3 e.symm)).grown hg2 (fun e => by injection e; omega)
      have keep : ∀ b, b < w.heap.size → b ≠ gk → v.ownBlock ≠ some b → (U.setCell ⟨gk, 0, none⟩ (.slice (some ⟨g', 0, none⟩) (n' + 1) cap')).heap[b]? = W.heap[b]? := fun b hb h1 h2 =>
        (hg2.block b (by have := hU.g.size; omega) (fun e => by injection e with e; exact h1 e)).trans (hU.g.block b (by omega) (fun e => by
          rcases hvo with q | q
          · rw [q] at e; exact h2 e.symm
          · have := q b e.symm; omega))
      refine ⟨KeepsFrom.trans (KeepsOthers.from (KeepsOthers.of_grownBy hU.g ?_) _) ((KeepsOthers.setCell _ _ _).from _), ⟨fun _ => by rw [hbx2.cell]; rfl, fun h j u hu => ?_⟩, ⟨⟨.slice (some ⟨g', 0, none⟩) (n' + 1) cap', hkU.set_ 0 _, ?_, ?_⟩, hbx, hbx2, ?_, Nat.le_trans hzW (Nat.le_trans hU.g.size hg2.size)⟩⟩
      · intro j o e ho
        rcases hrow.2 with ⟨rfl, _⟩ | ⟨g, cap, cur, rfl, _, hgb, _⟩
        · cases e
        · cases e
          rw [hgb] at ho
          cases ho
          rfl
      · obtain ⟨b, off, e, hcc⟩ := h j u hu
        obtain ⟨h1, h2, h3⟩ := hA _ e
        refine ⟨b, off, e, ?_⟩
        have := keep b h1 h2 h3
        rw [← hcc]
        unfold World.cell?
        simp only
        rw [this]
      · have hk7 := m7.kept hg2 (.inr hne7)
        rw [show bk.length + (pre ++ [ix]).length = n' + 1 by rw [List.length_append]; simp; omega, List.map_append, ← List.append_assoc, pc_append, hys]
        simp only [List.map_cons, List.map_nil, hE]
        exact hk7
      · rcases o7 with q | q
        · rcases hvo with r | r
          · exact .inl (q.trans r)
          · exact .inr fun b hb => r b (q.symm.trans hb)
        · exact .inr q
      · exact ⟨hg2.os.trans (hU.g.os.trans hI.pu.os), hg2.tape.trans (hU.g.tape.trans hI.pu.tape), hg2.output.trans (hU.g.output.trans hI.pu.output), Nat.le_trans hsz (Nat.le_trans hU.g.size hg2.size), fun b hb h1 h2 => (keep b hb h1 h2).trans (hI.pu.keep b hb h1 h2)⟩
  case done =>
    rintro D ys W hD hys hI hK
    obtain ⟨v', hkb, hrow, hvo⟩ := hI.ex
    have hl : ys.length = m := by rw [hys]; simp
    have hc : (ys.map fun i => xs.getD i zeroI) = xs.reverse := by
      have hxl := HX.out
      rw [hys, List.map_reverse, ← hxl, range_getD]
    rw [hl, hc] at hrow
    gi_wp2
    refine ⟨by simp, .inl ⟨_, _, rfl, run_takeDeferred hK, ?_⟩⟩
    have hn : ∀ r, some D = some r → ∃ o : Obj, W.heap[r]? = some o ∧ o.isCells = false := fun r e => by cases e; exact ⟨_, hK, rfl⟩
    exact ⟨_, results_none rfl _ _ _, ⟨_, rfl⟩, v', blk_noncells hkb (grownBy_putObj' W D _) hn, ownsRow_putObj hrow _ hK rfl, hI.pu.noncells (z := w.heap.size) (Nat.le_refl _) (grownBy_putObj' W D _) (fun r e => by cases e; omega), hvo⟩
end Go.Proofs.Ytjlhfmedaandeaa
