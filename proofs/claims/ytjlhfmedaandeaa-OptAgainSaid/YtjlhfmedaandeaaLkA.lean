import Derived.Test.YtjlhfmedaandeaaAliveW
import Derived.Test.YtjlhfmedaandeaaBck
import Derived.Test.YtjlhfmedaandeaaPrg
import Derived.Test.YtjlhfmedaandeaaTells3
import Derived.Test.YtjlhfmedaandeaaAppend2
import Derived.Test.YtjlhfmedaandeaaMonoR
import Derived.Test.YtjlhfmedaandeaaChunk
/- link.linker.put: instructions put in front of those that are there. -/
namespace Go.Proofs.Ytjlhfmedaandeaa
open Go.RowKit Go.ChangeShapes Go.WideShapes
set_option linter.unusedVariables false
set_option linter.unusedSimpArgs false
attribute [local go_sem] Oper.semAt_some

/-- What else than block g, and one own row, stays. -/
structure PU (g : Nat) (ob : Option Nat) (W W' : World) : Prop where
  os : W'.os = W.os
  tape : W'.tape = W.tape
  output : W'.output = W.output
  size : W.heap.size ≤ W'.heap.size
  keep : ∀ b, b < W.heap.size → b ≠ g → ob ≠ some b → W'.heap[b]? = W.heap[b]?
/-- What an append in a region leaves. -/
structure RA (ob : Option Nat) (base : Nat) (v : Value) (n : Nat) (xs ys : List Value) (W W' : World) : Prop where
  g : W.grownBy W' ob
  old : W.ownsRow base 43 4 v n xs → W'.ownsRow base 43 4 v n xs
  new : ∀ v', W.ownsRow base 43 4 v' (n + 1) (xs ++ ys) → W'.ownsRow base 43 4 v' (n + 1) (xs ++ ys)
theorem grown_any {W W' : World} (h : W.grownBy W' none) (ob : Option Nat) : W.grownBy W' ob := ⟨h.os, h.tape, h.output, h.size, fun b hb _ => h.block b hb (fun e => by cases e)⟩
theorem RA.of_none {ob : Option Nat} {base : Nat} {v : Value} {n : Nat} {xs ys : List Value} {W W' : World} (h : W.grownBy W' none) : RA ob base v n xs ys W W' :=
  have k : ∀ v'' j zs, W.ownsRow base 43 4 v'' j zs → W'.ownsRow base 43 4 v'' j zs := fun v'' j zs q => q.kept h (by cases v''.ownBlock; exact .inl rfl; exact .inr (fun e => by cases e))
  ⟨grown_any h ob, k _ _ _, fun _ => k _ _ _⟩
instance (ob : Option Nat) (base : Nat) (v : Value) (n : Nat) (xs ys : List Value) : MR.Pre (RA ob base v n xs ys) where
  refl W := RA.of_none ⟨rfl, rfl, rfl, Nat.le_refl _, fun _ _ _ => rfl⟩
  trans a b c h k := ⟨h.g.trans k.g, fun q => k.old (h.old q), fun v' q => k.new v' (h.new v' q)⟩
  drew W := RA.of_none (grown_drew W)
theorem own_ne_blk {W : World} {base n : Nat} {e t : TypeId} {size : Nat} {v : Value} {xs : List Value} {g : Nat} {cs : Array Value} (h : W.ownsRow base e size v n xs) (k : Blk W g t cs) (hne : e ≠ t) : v.ownBlock ≠ some g := fun hb => by
  rcases h.2 with ⟨hv, _⟩ | ⟨g', cap, cur, hv, _, hh, _⟩
  · rw [hv] at hb; cases hb
  · rw [hv] at hb
    injection hb with hb
    have hb : g' = g := hb
    subst hb
    unfold Blk at k
    rw [hh] at k
    injection k with k
    injection k with _ k2
    exact hne k2
/-- A row of one that is new. -/
def newRow {ob : Option Nat} {base : Nat} {v : Value} {n : Nat} {xs ys : List Value} (cs : Array Value) : MR.VP (RA ob base v n xs ys) :=
  ⟨fun u U => ∃ gn, u = .slice (some ⟨gn, 0, none⟩) 1 1 ∧ Blk U gn 43 cs ∧ ob ≠ some gn, fun _ _ _ ⟨gn, h1, h2, h3⟩ e => ⟨gn, h1, h2.grown e.g (fun q => h3 q.symm), h3⟩⟩
/-- The row behind the append. -/
def rowOf {ob : Option Nat} {base : Nat} {v : Value} {n : Nat} {xs ys : List Value} (z : Nat) : MR.VP (RA ob base v n xs ys) :=
  ⟨fun u U => U.ownsRow base 43 4 u (n + 1) (xs ++ ys) ∧ (u.ownBlock = ob ∨ ∀ b, u.ownBlock = some b → z ≤ b), fun _ _ _ h e => ⟨e.new _ h.1, h.2⟩⟩
/-- What holds between two rounds of put. -/
structure PutI (w : World) (z gk : Nat) (pv : Value) (far : Int) (bk : List Ins) (v : Value) (base : Nat) (A : Option Addr) (m c : Nat) (xs : List Ins) (pre : List Nat) (W : World) : Prop where
  ex : ∃ v', Blk W gk 69 #[v', pv, .int .i64 far] ∧ W.ownsRow base 43 4 v' (bk.length + pre.length) (pc (bk ++ pre.map fun i => xs.getD i zeroI)) ∧ (v'.ownBlock = v.ownBlock ∨ ∀ b, v'.ownBlock = some b → w.heap.size ≤ b)
  box : Blk W w.heap.size 64 #[.pointer (some ⟨gk, 0, none⟩)]
  box2 : Blk W (w.heap.size + 1) 33 #[.slice A m c]
  pu : PU gk v.ownBlock w W
  z : z ≤ W.heap.size
theorem PU.noncells {g z : Nat} {ob : Option Nat} {w W W' : World} {row : Option Nat} (h : PU g ob w W) (hz : w.heap.size ≤ z) (hg : W.grownBy W' row) (hr : ∀ r, row = some r → z ≤ r) : PU g ob w W' :=
  ⟨hg.os.trans h.os, hg.tape.trans h.tape, hg.output.trans h.output, Nat.le_trans h.size hg.size, fun b hb h1 h2 => (hg.block b (Nat.lt_of_lt_of_le hb h.size) (fun e => by have := hr b e.symm; omega)).trans (h.keep b hb h1 h2)⟩
theorem PutI_own (w : World) (z gk : Nat) (hz : w.heap.size ≤ z) (pv : Value) (far : Int) (bk : List Ins) (v : Value) (base : Nat) (A : Option Addr) (m c : Nat) (xs : List Ins) : OwnFrom z (PutI w z gk pv far bk v base A m c xs) := fun pre W W' row h hg hr => by
  have hn : ∀ r, row = some r → ∃ o : Obj, W.heap[r]? = some o ∧ o.isCells = false := fun r e => (hr r e).2
  obtain ⟨v', h1, h2, h3⟩ := h.ex
  exact ⟨⟨v', blk_noncells h1 hg hn, own_noncells h2 hg hn, h3⟩, blk_noncells h.box hg hn, blk_noncells h.box2 hg hn, h.pu.noncells hz hg (fun r e => (hr r e).1), Nat.le_trans h.z hg.size⟩
def putF (gk : Nat) (A : Option Addr) (m c z : Nat) (g x : Nat) (co jt jf kk : Int) : Act :=
  { tmps := #[.pointer (some ⟨gk, 0, none⟩), .slice A m c, .pointer (some ⟨z, 0, none⟩), undef, undef, .pointer (some ⟨g, 0, none⟩), .slice A m c, .func (.func 107) #[] #[.pointer (some ⟨z + 1, 0, none⟩)], .int .i64 x, .agg #[.int .u16 co, .int .u8 jt, .int .u8 jf, .int .u32 kk], undef, undef, undef, undef, undef, undef, undef, undef, undef, undef], defers := [] }
def PutA (gk : Nat) (A : Option Addr) (m c z : Nat) (xs : List Ins) (x z0 : Nat) (a1 : Act) (W : World) : Prop :=
  ∃ g co jt jf kk, z0 ≤ g ∧ xs.getD x zeroI = ⟨co, jt, jf, kk⟩ ∧ a1 = putF gk A m c z g x co jt jf kk ∧ Blk W g 43 #[.int .u16 co, .int .u8 jt, .int .u8 jf, .int .u32 kk]
set_option maxHeartbeats 2000000 in
set_option maxRecDepth 100000 in
theorem put_in (gk : Nat) (pv : Value) (far : Int) (bk : List Ins) (v : Value) (base : Nat) (A : Option Addr) (m c : Nat) (xs : List Ins) (hx : xs.length = m) (hm : m ≤ 3) (hb : bk.length ≤ 500000) (w : World) (hbase : base ≤ w.heap.size)
    (hk : Blk w gk 69 #[v, pv, .int .i64 far]) (ho : w.ownsRow base 43 4 v bk.length (pc bk)) (hM : InM w A (pc xs)) (hA : ∀ a, A = some a → a.block < w.heap.size ∧ a.block ≠ gk ∧ v.ownBlock ≠ some a.block) :
    CallsIn .wide 3 Try.prog 81 #[.pointer (some ⟨gk, 0, none⟩), .slice A m c] w fun e w' => (∃ u, e = .returned u) ∧ ∃ v', Blk w' gk 69 #[v', pv, .int .i64 far] ∧ w'.ownsRow base 43 4 v' (bk.length + m) (pc (bk ++ xs.reverse)) ∧
      PU gk v.ownBlock w w' ∧ (v'.ownBlock = v.ownBlock ∨ ∀ b, v'.ownBlock = some b → w.heap.size ≤ b) := by
  have HX := Lib.hid hx
  refine callsIn_of_wp_marks Try.func81 rfl trivial ?_ rfl
  simp only [Try.ntmps81, List.size_toArray, List.length_cons, List.length_nil, Nat.reduceAdd, Nat.reduceSub, Array.replicate_succ, Array.replicate_zero, List.push_toArray, List.append_toArray, List.nil_append, List.cons_append]
  gi_wp2_with (refine ⟨trivial, ?_⟩; gi_at_call 94; refine (backI_in A m c _).mono ?_; rintro e w' ⟨rfl, rfl⟩)
  have bK : Blk ((w.alloc (.cells #[.pointer (some ⟨gk, 0, none⟩)] 64)).alloc (.cells #[.slice A m c] 33)) w.heap.size 64 #[.pointer (some ⟨gk, 0, none⟩)] := (Blk.new w _ _).alloc _
  have bS : Blk ((w.alloc (.cells #[.pointer (some ⟨gk, 0, none⟩)] 64)).alloc (.cells #[.slice A m c] 33)) (w.heap.size + 1) 33 #[.slice A m c] := Blk.new_ (by simp)
  have hE0 : Ext w ((w.alloc (.cells #[.pointer (some ⟨gk, 0, none⟩)] 64)).alloc (.cells #[.slice A m c] 33)) := ((Ext.refl w).alloc _).alloc _
  have hz : ((w.alloc (.cells #[.pointer (some ⟨gk, 0, none⟩)] 64)).alloc (.cells #[.slice A m c] 33)).heap.size = w.heap.size + 2 := by simp
  generalize (w.alloc (.cells #[.pointer (some ⟨gk, 0, none⟩)] 64)).alloc (.cells #[.slice A m c] 33) = w0 at *
  have hM0 : InM w0 A (pc xs) := hM.ext hE0
  have hgk : gk < w.heap.size := hk.lt
  refine rangeFunc_tellsA rfl (by decide) (gf := 107) (lb := #[.pointer (some ⟨w.heap.size + 1, 0, none⟩)]) rfl trivial (enters_of Try.func107 (by kernel_rfl) rfl)
    (backI_tells (w.heap.size + 1) m c A xs HX.out (by omega) w0 bS.lt (by rw [bS.cell]; rfl) hM0) (fun h k => h.trans k)
    (fun W l o o' _ hl hc _ => ⟨fun hv => cell_kept hv (grownBy_putObj' W l o') (fun r e => by cases e; exact ⟨o, hl, hc⟩), fun hv j u hu => by
      obtain ⟨b, off, e, hcc⟩ := hv j u hu
      exact ⟨b, off, e, cell_kept hcc (grownBy_putObj' W l o') (fun r e => by cases e; exact ⟨o, hl, hc⟩)⟩⟩) (Below.refl _ _) (fun _ => rfl)
    (fun x W l o o' hG _ _ => hG)
    (PutI w w0.heap.size gk pv far bk v base A m c xs) (PutI_own w w0.heap.size gk (by omega) pv far bk v base A m c xs)
    ⟨⟨v, hk.ext hE0, by simpa using own_ext ho hE0, .inl rfl⟩, bK, bS, ⟨hE0.os, hE0.tape, hE0.output, hE0.size, fun b hb _ _ => hE0.block hb⟩, Nat.le_refl _⟩
    (PutA gk A m c w.heap.size xs)
    (fun x z0 a1 W l o o' ⟨g, co, jt, jf, kk, h1, h2, h3, h4⟩ hl hc => ⟨g, co, jt, jf, kk, h1, h2, h3, blk_noncells h4 (grownBy_putObj' W l o') (fun r e => by cases e; exact ⟨o, hl, hc⟩)⟩)
    (fun _ _ _ h _ => h) (fun W W' e => ⟨fun h => e.cell h, fun h => h.ext e⟩) ?assign ?body ?done
  case assign =>
    intro l x W K hG hK
    obtain ⟨⟨co, jt, jf, kk⟩, hE⟩ : ∃ E, xs.getD x zeroI = E := ⟨_, rfl⟩
    simp only [hE, Ins.val, Ins.cells]
    gi_wp2
    exact hK _ _ ((Ext.refl W).alloc _) ⟨W.heap.size, co, jt, jf, kk, Nat.le_refl _, hE, rfl, Blk.new _ _ _⟩
  case body =>
    rintro l pre ix W0 W a1 hI0 hI hxm ⟨g, co, jt, jf, kk, hzg, hE, rfl, hbi⟩ hBk hlt
    obtain ⟨v', hkb, hrow, hvo⟩ := hI.ex
    obtain ⟨v0, hkb0, hrow0, _⟩ := hI0.ex
    have e0 : v0 = v' := by
      have h1 := hBk _ _ hkb0 rfl
      unfold Blk at hkb
      rw [hkb] at h1
      injection h1 with h1
      injection h1 with h1
      injection h1 with h1
      injection h1 with h1
      exact h1.symm
    subst e0
    have hng : v0.ownBlock ≠ some g := fun e => by have := (hrow0.lt g e).2; omega
    have hn1 : v0.ownBlock ≠ some w.heap.size := own_ne_blk hrow hI.box (by decide)
    have hn2 : v0.ownBlock ≠ some gk := own_ne_blk hrow hkb (by decide)
    have hn3 : v0.ownBlock ≠ some (w.heap.size + 1) := own_ne_blk hrow hI.box2 (by decide)
    have hbox := hI.box
    have hzW := hI.z
    obtain ⟨n', hn'⟩ : ∃ n', bk.length + pre.length = n' := ⟨_, rfl⟩
    obtain ⟨ys, hys⟩ : ∃ ys, pc (bk ++ pre.map fun i => xs.getD i zeroI) = ys := ⟨_, rfl⟩
    rw [hn', hys] at hrow
    have hb1 : n' + 1 ≤ maxLen := by unfold maxLen; omega
    have hb2 : (n' + 1) * 8 ≤ 140737488355328 := by omega
    obtain ⟨i0, hi, hz0, hz1, hz2⟩ := info_parts info_ins
    have HI := Lib.hid hi; have HZ0 := Lib.hid hz0; have HZ1 := Lib.hid hz1; have HZ2 := Lib.hid hz2
    have hsz : w.heap.size ≤ W.heap.size := hI.pu.size
    clear hi hz0 hz1 hz2 bK bS hM0 hrow0 hkb0 hI0 hBk
    unfold putF
    gi_wp2_with fail
    refine MR.wpIn_region_last (R := (RA v0.ownBlock base v0 n' ys [.int .u16 co, .int .u8 jt, .int .u8 jf, .int .u32 kk])) (fun _ => trivial) rfl [.is (.pointer (some ⟨gk, 0, none⟩)), .is (.pointer (some ⟨gk, 0, none⟩)), .is (.pointer (some ⟨gk, 0, none⟩)), .is (.pointer (some ⟨gk, 0, none⟩)), .is v0, .is (.agg #[.int .u16 co, .int .u8 jt, .int .u8 jf, .int .u32 kk]), (newRow #[.int .u16 co, .int .u8 jt, .int .u8 jf, .int .u32 kk]), (rowOf w.heap.size), .is (.pointer (some ⟨gk, 0, none⟩)), .is (.pointer (some ⟨gk, 0, none⟩))] (by kernel_rfl) (by kernel_rfl) (by kernel_rfl) ?Aa ?hAa ⟨?oa0, ?oa1, ?oa2, ?oa3, ?oa4, ?oa5, ?oa6, ?oa7, ?oa8, ?oa9, trivial⟩ _ rfl rfl ?fina
    case hAa => (intro x; simp only [fillOps, Act.put, List.setIfInBounds_toArray, List.set_cons_zero, List.set_cons_succ, Nat.reduceAdd]; rfl)
    case oa0 =>
      intro x U hU
      simp only [MR.depV, MR.OneIn, dstOf, readDst, asBool, MR.VP.is, MR.VP.any, List.getD_cons_zero, List.getD_cons_succ, newRow, rowOf]
      have c0 := (hbox.grown hU.g (fun e => hn1 e.symm)).cell 0
      gi_wp2_with (fail)
      refine MR.done_mk ?_ rfl (MR.Pre.refl _)
      rfl
    case oa1 =>
      intro x U hU
      simp only [MR.depV, MR.OneIn, dstOf, readDst, asBool, MR.VP.is, MR.VP.any, List.getD_cons_zero, List.getD_cons_succ, newRow, rowOf]
      have c0 := (hbox.grown hU.g (fun e => hn1 e.symm)).cell 0
      gi_wp2_with (fail)
      refine MR.done_mk ?_ rfl (MR.Pre.refl _)
      rfl
    case oa2 =>
      intro x U hU
      simp only [MR.depV, MR.OneIn, dstOf, readDst, asBool, MR.VP.is, MR.VP.any, List.getD_cons_zero, List.getD_cons_succ, newRow, rowOf]
      intro d1
      simp only [d1]
      gi_wp2_with (fail)
      refine MR.done_mk ?_ rfl (MR.Pre.refl _)
      rfl
    case oa3 =>
      intro x U hU
      simp only [MR.depV, MR.OneIn, dstOf, readDst, asBool, MR.VP.is, MR.VP.any, List.getD_cons_zero, List.getD_cons_succ, newRow, rowOf]
      intro d2
      simp only [d2]
      gi_wp2_with (fail)
      refine MR.done_mk ?_ rfl (MR.Pre.refl _)
      rfl
    case oa4 =>
      intro x U hU
      simp only [MR.depV, MR.OneIn, dstOf, readDst, asBool, MR.VP.is, MR.VP.any, List.getD_cons_zero, List.getD_cons_succ, newRow, rowOf]
      intro d3
      simp only [d3]
      have c0 := (hkb.grown hU.g (fun e => hn2 e.symm)).cell 0
      gi_wp2_with (fail)
      refine MR.done_mk ?_ rfl (MR.Pre.refl _)
      rfl
    case oa5 =>
      intro x U hU
      simp only [MR.depV, MR.OneIn, dstOf, readDst, asBool, MR.VP.is, MR.VP.any, List.getD_cons_zero, List.getD_cons_succ, newRow, rowOf]
      have bq := hbi.grown hU.g (fun e => hng e.symm)
      have c0 := bq.cell 0
      have c1 := bq.cell 1
      have c2 := bq.cell 2
      have c3 := bq.cell 3
      gi_wp2_with (fail)
      refine MR.done_mk ?_ rfl (MR.Pre.refl _)
      rfl
    case oa6 =>
      intro x U hU
      simp only [MR.depV, MR.OneIn, dstOf, readDst, asBool, MR.VP.is, MR.VP.any, List.getD_cons_zero, List.getD_cons_succ, newRow, rowOf]
      intro d5
      simp only [d5]
      gi_wp2_with (fail)
      refine MR.done_mk ?_ rfl (RA.of_none (grown_of_ext ((Ext.refl U).alloc _) none))
      exact ⟨U.heap.size, rfl, Blk.new _ _ _, fun e => by have := ((hU.old hrow).lt _ e).2; omega⟩
    case oa7 =>
      intro x U hU
      simp only [MR.depV, MR.OneIn, dstOf, readDst, asBool, MR.VP.is, MR.VP.any, List.getD_cons_zero, List.getD_cons_succ, newRow, rowOf]
      intro d4
      rintro ⟨gn, d6, m6, o6⟩
      simp only [d4, d6]
      gi_wp2_with ((gi_at_builtin; refine wpListIn_append_own2 _ rfl _ _ 33 rfl base 43 i0 _ 4 8 Try.underlying33 HI.out HZ0.out HZ1.out HZ2.out rfl (by decide) v0 n' ys rfl (hU.old hrow) ⟨gn, 0, none⟩ 1 1 [.int .u16 co, .int .u8 jt, .int .u8 jf, .int .u32 kk] rfl rfl (fun j u hj => (InM.ofBlk m6 rfl : InM _ (some ⟨gn, 0, none⟩) [Value.int .u16 co, .int .u8 jt, .int .u8 jf, .int .u32 kk]).add hj) (by simp [Value.oneCell']) hb1 hb2 (by have := hU.g.size; omega) ?_; intro v2 w2 q1 q2 q3 q4 q5))
      refine MR.done_mk ?_ rfl (⟨q2, fun _ => q3, q4⟩)
      exact ⟨q1, q5.imp id (fun q b hb => by have := q b hb; have := hU.g.size; omega)⟩
    case oa8 =>
      intro x U hU
      simp only [MR.depV, MR.OneIn, dstOf, readDst, asBool, MR.VP.is, MR.VP.any, List.getD_cons_zero, List.getD_cons_succ, newRow, rowOf]
      intro d0
      simp only [d0]
      gi_wp2_with (fail)
      refine MR.done_mk ?_ rfl (MR.Pre.refl _)
      rfl
    case oa9 =>
      intro x U hU
      simp only [MR.depV, MR.OneIn, dstOf, readDst, asBool, MR.VP.is, MR.VP.any, List.getD_cons_zero, List.getD_cons_succ, newRow, rowOf]
      intro d8
      simp only [d8]
      gi_wp2_with (fail)
      refine MR.done_mk ?_ rfl (MR.Pre.refl _)
      rfl
    case fina =>
      intro x U hU
      simp only [MR.allV, MR.depV, MR.OneIn, dstOf, readDst, asBool, MR.VP.is, MR.VP.any, List.getD_cons_zero, List.getD_cons_succ, newRow, rowOf]
      intro d0
      intro d1
      intro d2
      intro d3
      intro d4
      intro d5
      rintro ⟨gn, d6, m6, o6⟩
      rintro ⟨m7, o7⟩
      intro d8
      intro d9
      simp only [d0, d1, d2, d3, d4, d5, d6, d8, d9]
      clear d0 d1 d2 d3 d4 d5 d6 d8 d9
      obtain ⟨g', cap', e7⟩ := ownsRow_succ m7
      rw [e7] at m7 o7
      have hkU := hkb.grown hU.g (fun e => hn2 e.symm)
      have c9 := hkU.cell 0
      have f9 := hkU.frozen 0
      simp only [e7]
      gi_wp2_with fail
      have hg2 := grownBy_setCell' U gk (.slice (some ⟨g', 0, none⟩) (n' + 1) cap')
      have hne7 := own_ne_blk m7 hkU (by decide)
      have hbx := (hbox.grown hU.g (fun e => hn1 e.symm)).grown hg2 (fun e => by injection e; omega)
      have hbx2 := (hI.box2.grown hU.g (fun e => hn3 e.symm)).grown hg2 (fun e => by injection e; omega)
      have keep : ∀ b, b < w.heap.size → b ≠ gk → v.ownBlock ≠ some b → (U.setCell ⟨gk, 0, none⟩ (.slice (some ⟨g', 0, none⟩) (n' + 1) cap')).heap[b]? = W.heap[b]? := fun b hb h1 h2 =>
        (hg2.block b (by have := hU.g.size; omega) (fun e => by injection e with e; exact h1 e)).trans (hU.g.block b (by omega) (fun e => by
          rcases hvo with q | q
          · rw [q] at e; exact h2 e.symm
          · have := q b e.symm; omega))
      refine ⟨KeepsFrom.trans (KeepsOthers.from (KeepsOthers.of_grownBy hU.g ?_) _) ((KeepsOthers.setCell _ _ _).from _), ⟨fun _ => by rw [hbx2.cell]; rfl, fun h j u hu => ?_⟩, ⟨⟨.slice (some ⟨g', 0, none⟩) (n' + 1) cap', hkU.set_ 0 _, ?_, ?_⟩, hbx, hbx2, ?_, Nat.le_trans hzW (Nat.le_trans hU.g.size hg2.size)⟩⟩
      · intro j o e ho
        rcases hrow.2 with ⟨rfl, _⟩ | ⟨g, cap, cur, rfl, _, hgb, _⟩
        · cases e
        · cases e
          rw [hgb] at ho
          cases ho
          rfl
      · obtain ⟨b, off, e, hcc⟩ := h j u hu
        obtain ⟨h1, h2, h3⟩ := hA _ e
        refine ⟨b, off, e, ?_⟩
        have := keep b h1 h2 h3
        rw [← hcc]
        unfold World.cell?
        simp only
        rw [this]
      · have hk7 := m7.kept hg2 (.inr hne7)
        rw [show bk.length + (pre ++ [ix]).length = n' + 1 by rw [List.length_append]; simp; omega, List.map_append, ← List.append_assoc, pc_append, hys]
        simp only [List.map_cons, List.map_nil, hE]
        exact hk7
      · rcases o7 with q | q
        · rcases hvo with r | r
          · exact .inl (q.trans r)
          · exact .inr fun b hb => r b (q.symm.trans hb)
        · exact .inr q
      · exact ⟨hg2.os.trans (hU.g.os.trans hI.pu.os), hg2.tape.trans (hU.g.tape.trans hI.pu.tape), hg2.output.trans (hU.g.output.trans hI.pu.output), Nat.le_trans hsz (Nat.le_trans hU.g.size hg2.size), fun b hb h1 h2 => (keep b hb h1 h2).trans (hI.pu.keep b hb h1 h2)⟩
  case done =>
    rintro D ys W hD hys hI hK
    obtain ⟨v', hkb, hrow, hvo⟩ := hI.ex
    have hl : ys.length = m := by rw [hys]; simp
    have hc : (ys.map fun i => xs.getD i zeroI) = xs.reverse := by
      have hxl := HX.out
      rw [hys, List.map_reverse, ← hxl, range_getD]
    rw [hl, hc] at hrow
    gi_wp2
    refine ⟨by simp, .inl ⟨_, _, rfl, run_takeDeferred hK, ?_⟩⟩
    have hn : ∀ r, some D = some r → ∃ o : Obj, W.heap[r]? = some o ∧ o.isCells = false := fun r e => by cases e; exact ⟨_, hK, rfl⟩
    exact ⟨_, results_none rfl _ _ _, ⟨_, rfl⟩, v', blk_noncells hkb (grownBy_putObj' W D _) hn, ownsRow_putObj hrow _ hK rfl, hI.pu.noncells (z := w.heap.size) (Nat.le_refl _) (grownBy_putObj' W D _) (fun r e => by cases e; omega), hvo⟩
end Go.Proofs.Ytjlhfmedaandeaa

/- link.linker.distance, one. -/
namespace Go.Proofs.Ytjlhfmedaandeaa
open Go.RowKit Go.ChangeShapes Go.WideShapes
set_option linter.unusedVariables false
set_option linter.unusedSimpArgs false

set_option maxHeartbeats 1000000 in
set_option maxRecDepth 100000 in
theorem distI (gk gp n nb vc : Nat) (vA : Option Addr) (far : Int) (pl : List Int) (hpl : pl.length = n) (t : Nat) (ht : t < n) (hn : n ≤ 200000) (hb : nb ≤ 500000) (hp : ∀ x ∈ pl, 0 ≤ x ∧ x ≤ nb) (W : World)
    (hk : Blk W gk 69 #[.slice vA nb vc, .slice (some ⟨gp, 0, none⟩) n n, .int .i64 far]) (hq : Blk W gp 3 (nums .i64 pl).toArray) :
    Calls Try.prog 82 #[.pointer (some ⟨gk, 0, none⟩), .int .i64 t] W fun e w' => e = .returned (.int .i64 ((nb : Int) - pl.getD t 0)) ∧ Ext W w' := by
  have htp : t < pl.length := by omega
  have hq2 := (hq.cell t).trans (show ((nums .i64 pl).toArray)[t]? = some (.int .i64 (pl.getD t 0)) from by
    rw [List.getElem?_toArray, nums_at htp, List.getD_eq_getElem?_getD, List.getElem?_eq_getElem htp]; rfl)
  have hm := hp _ (List.getElem_mem htp)
  have he : pl[t] = pl.getD t 0 := by rw [List.getD_eq_getElem?_getD, List.getElem?_eq_getElem htp]; rfl
  rw [he] at hm
  have t0 : (0 : Int) ≤ t := by omega
  have t1 : (t : Int) < n := by omega
  generalize pl.getD t 0 = p at *
  have w1 : IntKind.i64.wrap ((nb : Int) - p) = nb - p := IntWalk.i64_in _ (by omega)
  have HK := Lib.hid hk
  have HQ := Lib.hid hq2
  clear hk hq hq2 hp he hm htp hpl
  go_enter Try.func82, Try.ntmps82
  go_wp2_with fail
  refine wp_region_mono rfl [.is ?vaq2r0, .is ?vaq2r1, .is ?vaq2r2, .is (.slice vA nb vc), .is ?vaq2r4, .is ?vaq2r5, .is ?vaq2r6, .is ?vaq2r7, .is (.slice (some ⟨gp, 0, none⟩) n n), .is ?vaq2r9, .is ?vaq2r10, .is (.int .i64 p), .is (.int .i64 ((nb : Int) - p)), .is (.int .i64 ((nb : Int) - p))] (by kernel_rfl) (by kernel_rfl) ?Aaq2r ?hAaq2r ⟨?oaq2r0, ?oaq2r1, ?oaq2r2, ?oaq2r3, ?oaq2r4, ?oaq2r5, ?oaq2r6, ?oaq2r7, ?oaq2r8, ?oaq2r9, ?oaq2r10, ?oaq2r11, ?oaq2r12, ?oaq2r13, trivial⟩ ?finaq2r
  case hAaq2r => (intro x; simp only [fillOps, Act.put, List.setIfInBounds_toArray, List.set_cons_zero, List.set_cons_succ, Nat.reduceAdd]; rfl)
  case oaq2r0 =>
    intro x U hU
    simp only [depV, One, dstOf, readDst, asBool, VP.is, VP.any, VP.row, VP.ptr, VP.blk, VP.ex, VP.and, VP.of, List.getD_cons_zero, List.getD_cons_succ]
    go_wp2_with (fail)
    refine done_mk ?_ rfl (Ext.refl _)
    rfl
  case oaq2r1 =>
    intro x U hU
    simp only [depV, One, dstOf, readDst, asBool, VP.is, VP.any, VP.row, VP.ptr, VP.blk, VP.ex, VP.and, VP.of, List.getD_cons_zero, List.getD_cons_succ]
    intro d0
    simp only [d0]
    go_wp2_with (fail)
    refine done_mk ?_ rfl (Ext.refl _)
    rfl
  case oaq2r2 =>
    intro x U hU
    simp only [depV, One, dstOf, readDst, asBool, VP.is, VP.any, VP.row, VP.ptr, VP.blk, VP.ex, VP.and, VP.of, List.getD_cons_zero, List.getD_cons_succ]
    intro d1
    simp only [d1]
    go_wp2_with (fail)
    refine done_mk ?_ rfl (Ext.refl _)
    rfl
  case oaq2r3 =>
    intro x U hU
    simp only [depV, One, dstOf, readDst, asBool, VP.is, VP.any, VP.row, VP.ptr, VP.blk, VP.ex, VP.and, VP.of, List.getD_cons_zero, List.getD_cons_succ]
    intro d2
    simp only [d2]
    have c0 := (HK.out.ext hU).cell 0
    go_wp2_with (fail)
    refine done_mk ?_ rfl (Ext.refl _)
    rfl
  case oaq2r4 =>
    intro x U hU
    simp only [depV, One, dstOf, readDst, asBool, VP.is, VP.any, VP.row, VP.ptr, VP.blk, VP.ex, VP.and, VP.of, List.getD_cons_zero, List.getD_cons_succ]
    intro d3
    simp only [d3]
    go_wp2_with (fail)
    refine done_mk ?_ rfl (Ext.refl _)
    rfl
  case oaq2r5 =>
    intro x U hU
    simp only [depV, One, dstOf, readDst, asBool, VP.is, VP.any, VP.row, VP.ptr, VP.blk, VP.ex, VP.and, VP.of, List.getD_cons_zero, List.getD_cons_succ]
    go_wp2_with (fail)
    refine done_mk ?_ rfl (Ext.refl _)
    rfl
  case oaq2r6 =>
    intro x U hU
    simp only [depV, One, dstOf, readDst, asBool, VP.is, VP.any, VP.row, VP.ptr, VP.blk, VP.ex, VP.and, VP.of, List.getD_cons_zero, List.getD_cons_succ]
    intro d5
    simp only [d5]
    go_wp2_with (fail)
    refine done_mk ?_ rfl (Ext.refl _)
    rfl
  case oaq2r7 =>
    intro x U hU
    simp only [depV, One, dstOf, readDst, asBool, VP.is, VP.any, VP.row, VP.ptr, VP.blk, VP.ex, VP.and, VP.of, List.getD_cons_zero, List.getD_cons_succ]
    intro d6
    simp only [d6]
    go_wp2_with (fail)
    refine done_mk ?_ rfl (Ext.refl _)
    rfl
  case oaq2r8 =>
    intro x U hU
    simp only [depV, One, dstOf, readDst, asBool, VP.is, VP.any, VP.row, VP.ptr, VP.blk, VP.ex, VP.and, VP.of, List.getD_cons_zero, List.getD_cons_succ]
    intro d7
    simp only [d7]
    have c0 := (HK.out.ext hU).cell 1
    go_wp2_with (fail)
    refine done_mk ?_ rfl (Ext.refl _)
    rfl
  case oaq2r9 =>
    intro x U hU
    simp only [depV, One, dstOf, readDst, asBool, VP.is, VP.any, VP.row, VP.ptr, VP.blk, VP.ex, VP.and, VP.of, List.getD_cons_zero, List.getD_cons_succ]
    go_wp2_with (fail)
    refine done_mk ?_ rfl (Ext.refl _)
    rfl
  case oaq2r10 =>
    intro x U hU
    simp only [depV, One, dstOf, readDst, asBool, VP.is, VP.any, VP.row, VP.ptr, VP.blk, VP.ex, VP.and, VP.of, List.getD_cons_zero, List.getD_cons_succ]
    intro d8
    intro d9
    simp only [d8, d9]
    go_wp2_with (fail)
    refine done_mk ?_ rfl (Ext.refl _)
    rfl
  case oaq2r11 =>
    intro x U hU
    simp only [depV, One, dstOf, readDst, asBool, VP.is, VP.any, VP.row, VP.ptr, VP.blk, VP.ex, VP.and, VP.of, List.getD_cons_zero, List.getD_cons_succ]
    intro d10
    simp only [d10]
    have c0 := hU.cell HQ.out
    go_wp2_with (fail)
    refine done_mk ?_ rfl (Ext.refl _)
    rfl
  case oaq2r12 =>
    intro x U hU
    simp only [depV, One, dstOf, readDst, asBool, VP.is, VP.any, VP.row, VP.ptr, VP.blk, VP.ex, VP.and, VP.of, List.getD_cons_zero, List.getD_cons_succ]
    intro d4
    intro d11
    simp only [d4, d11]
    go_wp2_with (fail)
    refine done_mk ?_ rfl (Ext.refl _)
    rfl
  case oaq2r13 =>
    intro x U hU
    simp only [depV, One, dstOf, readDst, asBool, VP.is, VP.any, VP.row, VP.ptr, VP.blk, VP.ex, VP.and, VP.of, List.getD_cons_zero, List.getD_cons_succ]
    intro d12
    simp only [d12]
    go_wp2_with (fail)
    refine done_mk ?_ rfl (Ext.refl _)
    rfl
  case finaq2r =>
    intro x U hU
    simp only [allV, depV, One, dstOf, readDst, asBool, VP.is, VP.any, VP.row, VP.ptr, VP.blk, VP.ex, VP.and, VP.of, List.getD_cons_zero, List.getD_cons_succ]
    intro d0
    intro d1
    intro d2
    intro d3
    intro d4
    intro d5
    intro d6
    intro d7
    intro d8
    intro d9
    intro d10
    intro d11
    intro d12
    intro d13
    simp only [d0, d1, d2, d3, d4, d5, d6, d7, d8, d9, d10, d11, d12, d13]
    clear d0 d1 d2 d3 d4 d5 d6 d7 d8 d9 d10 d11 d12 d13
    go_wp2
    go_ret
    exact ⟨rfl, hU⟩
/-- What an instruction becomes, and how many are far. -/
def dist (nb : Nat) (pl : List Int) (t : Int) : Int := (nb : Int) - pl.getD t.toNat 0
def oneL (nb : Nat) (pl : List Int) (s : Sy) : List Ins × Int :=
  if s.code = 5 then ([⟨5, 0, 0, dist nb pl s.th⟩], 0)
  else if asksC s.code = false then ([⟨s.code, 0, 0, s.k⟩], 0)
  else if max (dist nb pl s.th) (dist nb pl s.el) ≤ 255 then ([⟨s.code, dist nb pl s.th, dist nb pl s.el, s.k⟩], 0)
  else ([⟨s.code, 0, 1, s.k⟩, ⟨5, 0, 0, dist nb pl s.th + 1⟩, ⟨5, 0, 0, dist nb pl s.el⟩], 1)
end Go.Proofs.Ytjlhfmedaandeaa

/- link.linker.one: what an instruction becomes. -/
namespace Go.Proofs.Ytjlhfmedaandeaa
open Go.RowKit Go.ChangeShapes Go.WideShapes
set_option linter.unusedVariables false
set_option linter.unusedSimpArgs false

/-- The linker's memory. -/
structure LK (gk gp n base : Nat) (bk : List Ins) (pl : List Int) (far : Int) (v : Value) (W : World) : Prop where
  k : Blk W gk 69 #[v, .slice (some ⟨gp, 0, none⟩) n n, .int .i64 far]
  r : W.ownsRow base 43 4 v bk.length (pc bk)
  q : Blk W gp 3 (nums .i64 pl).toArray
theorem LK.ext {gk gp n base : Nat} {bk : List Ins} {pl : List Int} {far : Int} {v : Value} {W W' : World} (h : LK gk gp n base bk pl far v W) (e : Ext W W') : LK gk gp n base bk pl far v W' := ⟨h.k.ext e, own_ext h.r e, h.q.ext e⟩
theorem LK.val {gk gp n base : Nat} {bk : List Ins} {pl : List Int} {far : Int} {v : Value} {W : World} (h : LK gk gp n base bk pl far v W) : ∃ A c, v = .slice A bk.length c := by
  rcases h.r.2 with ⟨hv, h0⟩ | ⟨g, cap, cur, hv, _⟩
  · exact ⟨none, 0, by rw [hv, h0]⟩
  · exact ⟨_, _, hv⟩
/-- What a step of the linker leaves. -/
structure LS (gk gp n base : Nat) (bk : List Ins) (pl : List Int) (far : Int) (v : Value) (W W' : World) : Prop where
  ex : ∃ v', LK gk gp n base bk pl far v' W' ∧ (v'.ownBlock = v.ownBlock ∨ ∀ b, v'.ownBlock = some b → W.heap.size ≤ b)
  pu : PU gk v.ownBlock W W'
theorem PU.of_ext {g : Nat} {ob : Option Nat} {W W' : World} (h : Ext W W') : PU g ob W W' := ⟨h.os, h.tape, h.output, h.size, fun b hb _ _ => h.block hb⟩
theorem PU.trans {g : Nat} {ob : Option Nat} {a b c : World} (h : PU g ob a b) (k : PU g ob b c) : PU g ob a c :=
  ⟨k.os.trans h.os, k.tape.trans h.tape, k.output.trans h.output, Nat.le_trans h.size k.size, fun x hx h1 h2 => (k.keep x (Nat.lt_of_lt_of_le hx h.size) h1 h2).trans (h.keep x hx h1 h2)⟩
theorem grown_set (U : World) (g i : Nat) (u : Value) : U.grownBy (U.setCell ⟨g, i, none⟩ u) (some g) := ⟨rfl, rfl, rfl, by simp, fun k _ h => Below.heap_setCell U ⟨g, i, none⟩ u k (fun e => h (by rw [e]))⟩
theorem PU.of_set (g i : Nat) (ob : Option Nat) (W : World) (u : Value) : PU g ob W (W.setCell ⟨g, i, none⟩ u) := ⟨rfl, rfl, rfl, by simp, fun b _ h _ => Below.heap_setCell W ⟨g, i, none⟩ u b h⟩
/-- put, from the linker's memory to the linker's memory. -/
theorem putLK (gk gp n base : Nat) (bk : List Ins) (pl : List Int) (far : Int) (v : Value) (W0 W : World) (xs : List Ins) (g m : Nat) (hm : xs.length = m) (hm3 : m ≤ 3) (hb : bk.length ≤ 500000) (hne : gp ≠ gk)
    (L : LK gk gp n base bk pl far v W) (hg : Blk W g 43 (pc xs).toArray) (hW : PU gk v.ownBlock W0 W) (hv : ∀ b, v.ownBlock = some b → b < W0.heap.size) (hgn : W0.heap.size ≤ g) (hgk : gk < W0.heap.size) (hbase : base ≤ W0.heap.size) :
    Calls Try.prog 81 #[.pointer (some ⟨gk, 0, none⟩), .slice (some ⟨g, 0, none⟩) m m] W fun e w' => (∃ u, e = .returned u) ∧ LS gk gp n base (bk ++ xs.reverse) pl far v W0 w' := by
  refine (callsIn_wide.1 (put_in gk _ far bk v base (some ⟨g, 0, none⟩) m m xs hm hm3 hb W (Nat.le_trans hbase hW.size) L.k L.r (InM.ofBlk hg rfl) (fun a e => by
    cases e
    exact ⟨hg.lt, by show g ≠ gk; omega, fun e => by have := hv g e; omega⟩))).mono ?_
  rintro e w' ⟨h1, v', h2, h3, h4, h5⟩
  have hq := (h4.keep gp L.q.lt hne (own_ne_blk L.r L.q (by decide))).trans L.q
  refine ⟨h1, ⟨v', ⟨h2, ?_, hq⟩, h5.imp id (fun q b hb => Nat.le_trans hW.size (q b hb))⟩, hW.trans h4⟩
  rw [List.length_append, List.length_reverse, hm]
  exact h3
set_option maxHeartbeats 4000000 in
set_option maxRecDepth 100000 in
theorem oneI (gk gp n base : Nat) (bk : List Ins) (pl : List Int) (far : Int) (v : Value) (W : World) (s : Sy) (a : Int) (ha : 0 ≤ a) (hs : s.ok) (hK : Kind s a n) (hpl : pl.length = n) (hn : n ≤ 131072) (hb : bk.length ≤ 400000) (hp : ∀ x ∈ pl, 0 ≤ x ∧ x ≤ bk.length)
    (hf : 0 ≤ far ∧ far ≤ 1000000) (hne : gp ≠ gk) (hbase : base ≤ W.heap.size) (L : LK gk gp n base bk pl far v W) :
    Calls Try.prog 64 #[.pointer (some ⟨gk, 0, none⟩), s.val] W fun e w' => (∃ u, e = .returned u) ∧ LS gk gp n base (bk ++ (oneL bk.length pl s).1.reverse) pl (far + (oneL bk.length pl s).2) v W w' := by
  have hv : ∀ b, v.ownBlock = some b → b < W.heap.size := fun b e => (L.r.lt b e).2
  have hgk := L.k.lt
  obtain ⟨vA, vc, rfl⟩ := L.val
  have hd : ∀ t : Int, 0 ≤ t → t < n → 0 ≤ dist bk.length pl t ∧ dist bk.length pl t ≤ 400000 := fun t h0 h1 => by
    have htp : t.toNat < pl.length := by omega
    have := hp _ (List.getElem_mem htp)
    unfold dist
    rw [List.getD_eq_getElem?_getD, List.getElem?_eq_getElem htp]
    simp only [Option.getD_some]
    omega
  have HD := Lib.hid (fun (t : Int) (h0 : 0 ≤ t) (h1 : t < n) (W' : World) (e : Ext W W') => by
    have h := distI gk gp n bk.length vc vA far pl hpl t.toNat (by omega) (by omega) (by omega) hp W' (L.ext e).k (L.ext e).q
    rw [Int.toNat_of_nonneg h0] at h
    exact h)
  have HL := Lib.hid L
  have hcl := kind_cls hK
  have HO := Lib.hid (fun W' => of_any s.code W')
  rw [hcl] at HO
  obtain ⟨R, hR⟩ : ∃ R, oneL bk.length pl s = R := ⟨_, rfl⟩
  rw [hR]
  have HR := Lib.hid hR
  have hk32 := hs.2.1
  obtain ⟨co, k, th, el⟩ := s
  unfold Sy.val Sy.cells
  dsimp only at *
  have hx := (Ext.refl W).alloc (.cells #[.int .u16 co, .int .u32 k, .int .i64 th, .int .i64 el] 32)
  have bs := Blk.new W 32 #[.int .u16 co, .int .u32 k, .int .i64 th, .int .i64 el]
  clear L hs hR hcl
  by_cases h5 : co = 5
  · subst h5
    obtain ⟨t0, t1⟩ : 0 ≤ th ∧ th < n := by
      rcases hK with ⟨h, _, _, _⟩ | ⟨h, _, _⟩ | ⟨h, _, _⟩ | ⟨h, _, _, h9⟩ | ⟨h, _, _⟩
      · cases h
      · cases h
      · cases h
      · dsimp only at h9; omega
      · rcases h with h | h | h | h <;> cases h
    have hR2 : R = ([⟨5, 0, 0, dist bk.length pl th⟩], 0) := by rw [← HR.out]; rfl
    obtain ⟨d0, d1⟩ := hd th t0 t1
    have HDT := Lib.hid (HD.out th t0 t1)
    rw [show (bk.length : Int) - pl.getD th.toNat 0 = dist bk.length pl th from rfl] at HDT
    clear hd HD HO hK
    generalize dist bk.length pl th = d at *
    have w1 : IntKind.u32.wrap d = d := IntWalk.u32_in _ (by omega)
    subst hR2
    go_enter Try.func64, Try.ntmps64
    go_wp2_with fail
    refine (HDT.out _ hx).mono ?_
    rintro e w1 ⟨rfl, hx1⟩
    have hxx := hx.trans hx1
    go_wp2_with fail
    refine (putLK gk gp n base bk pl far (.slice vA bk.length vc) W _ ([⟨5, 0, 0, d⟩]) (w1).heap.size 1 rfl (by omega) (by omega) hne (HL.out.ext ((hxx).alloc _)) (Blk.new w1 _ _) (PU.of_ext ((hxx).alloc _)) hv (hxx).size hgk hbase).mono ?_
    rintro e w9 ⟨⟨u9, rfl⟩, h9⟩
    go_wp2_with fail
    go_end0
    exact ⟨⟨_, rfl⟩, by rw [Int.add_zero]; exact h9⟩
  have e5 : (co == 5) = false := by simpa using h5
  rcases hA : asksC co with _ | _
  · obtain ⟨q, hq, hq4⟩ : ∃ q : Int, (if co = 32 then 1 else if co = 84 then 3 else if co = 6 then 5 else 4) = q ∧ (q != 4) = true := by
      rcases hK with ⟨h, _, _, _⟩ | ⟨h, _, _⟩ | ⟨h, _, _⟩ | ⟨h, _, _, h9⟩ | ⟨h, _, _⟩
      · exact ⟨1, by rw [if_pos h], rfl⟩
      · dsimp only at h; exact ⟨3, by rw [if_neg (by omega), if_pos h], rfl⟩
      · dsimp only at h; exact ⟨5, by rw [if_neg (by omega), if_neg (by omega), if_pos h], rfl⟩
      · exact absurd h h5
      · dsimp only at h; rcases h with h | h | h | h <;> rw [h] at hA <;> cases hA
    rw [hq] at HO
    have hR2 : R = ([⟨co, 0, 0, k⟩], 0) := by
      rw [← HR.out]
      unfold oneL
      rw [if_neg h5, if_pos hA]
    clear hd HD hK hq hA h5
    subst hR2
    go_enter Try.func64, Try.ntmps64
    go_wp2_with fail
    refine (HO.out _).mono ?_
    rintro e w1 ⟨rfl, hx1⟩
    have hxx := hx.trans hx1
    have bs1 := bs.ext hx1
    have s0 := (bs1).cell 0
    have s1 := (bs1).cell 1
    have s2 := (bs1).cell 2
    have s3 := (bs1).cell 3
    go_wp2_with fail
    clear s0 s1 s2 s3
    refine (putLK gk gp n base bk pl far (.slice vA bk.length vc) W _ ([⟨co, 0, 0, k⟩]) (w1).heap.size 1 rfl (by omega) (by omega) hne (HL.out.ext ((hxx).alloc _)) (Blk.new w1 _ _) (PU.of_ext ((hxx).alloc _)) hv (hxx).size hgk hbase).mono ?_
    rintro e w9 ⟨⟨u9, rfl⟩, h9⟩
    go_wp2_with fail
    go_end0
    exact ⟨⟨_, rfl⟩, by rw [Int.add_zero]; exact h9⟩
  · obtain ⟨hc4, t0, t1, l0, l1⟩ : (if co = 32 then (1 : Int) else if co = 84 then 3 else if co = 6 then 5 else 4) = 4 ∧ 0 ≤ th ∧ th < n ∧ 0 ≤ el ∧ el < n := by
      rcases hK with ⟨h, _, _, _⟩ | ⟨h, _, _⟩ | ⟨h, _, _⟩ | ⟨h, _, _, h9⟩ | ⟨h, h8, h9⟩
      · dsimp only at h; rw [h] at hA; cases hA
      · dsimp only at h; rw [h] at hA; cases hA
      · dsimp only at h; rw [h] at hA; cases hA
      · exact absurd h h5
      · dsimp only at h h8 h9
        exact ⟨by rw [if_neg (by omega), if_neg (by omega), if_neg (by omega)], by omega, by omega, by omega, by omega⟩
    rw [hc4] at HO
    obtain ⟨d0, d1⟩ := hd th t0 t1
    obtain ⟨b0, b1⟩ := hd el l0 l1
    have HDT := Lib.hid (HD.out th t0 t1)
    have HDE := Lib.hid (HD.out el l0 l1)
    rw [show (bk.length : Int) - pl.getD th.toNat 0 = dist bk.length pl th from rfl] at HDT
    rw [show (bk.length : Int) - pl.getD el.toNat 0 = dist bk.length pl el from rfl] at HDE
    have hR2 : R = if max (dist bk.length pl th) (dist bk.length pl el) ≤ 255 then ([⟨co, dist bk.length pl th, dist bk.length pl el, k⟩], 0) else ([⟨co, 0, 1, k⟩, ⟨5, 0, 0, dist bk.length pl th + 1⟩, ⟨5, 0, 0, dist bk.length pl el⟩], 1) := by
      rw [← HR.out]
      unfold oneL
      rw [if_neg h5, if_neg (by rw [hA]; decide)]
    clear hd HD hK hc4 hA h5 HR
    generalize dist bk.length pl th = da at *
    generalize dist bk.length pl el = db at *
    by_cases near : max da db ≤ 255
    · rw [if_pos near] at hR2
      have n1 : da ≤ 255 := by omega
      have n2 : db ≤ 255 := by omega
      have w8a : IntKind.u8.wrap da = da := IntWalk.u8_in _ (by omega)
      have w8b : IntKind.u8.wrap db = db := IntWalk.u8_in _ (by omega)
      subst hR2
      go_enter Try.func64, Try.ntmps64
      go_wp2_with fail
      refine (HO.out _).mono ?_
      rintro e w1 ⟨rfl, hx1⟩
      have hxx := hx.trans hx1
      have bs1 := bs.ext hx1
      have s0 := (bs1).cell 0
      have s1 := (bs1).cell 1
      have s2 := (bs1).cell 2
      have s3 := (bs1).cell 3
      go_wp2_with fail
      clear s0 s1 s2 s3
      refine wp_region_mono rfl [.is ?vaq3r0, .is ?vaq3r1, .is (.int .i64 th), .is (.int .i64 da), .is ?vaq3r4, .is ?vaq3r5, .is (.int .i64 el), .is (.int .i64 db), .is (.int .i64 da), .is (.int .i64 db)] (by kernel_rfl) (by kernel_rfl) ?Aaq3r ?hAaq3r ⟨?oaq3r0, ?oaq3r1, ?oaq3r2, ?oaq3r3, ?oaq3r4, ?oaq3r5, ?oaq3r6, ?oaq3r7, ?oaq3r8, ?oaq3r9, trivial⟩ ?finaq3r
      case hAaq3r => (intro x; simp only [fillOps, Act.put, List.setIfInBounds_toArray, List.set_cons_zero, List.set_cons_succ, Nat.reduceAdd]; rfl)
      case oaq3r0 =>
        intro x U hU
        simp only [depV, One, dstOf, readDst, asBool, VP.is, VP.any, VP.row, VP.ptr, VP.blk, VP.ex, VP.and, VP.of, List.getD_cons_zero, List.getD_cons_succ]
        go_wp2_with (fail)
        refine done_mk ?_ rfl (Ext.refl _)
        rfl
      case oaq3r1 =>
        intro x U hU
        simp only [depV, One, dstOf, readDst, asBool, VP.is, VP.any, VP.row, VP.ptr, VP.blk, VP.ex, VP.and, VP.of, List.getD_cons_zero, List.getD_cons_succ]
        go_wp2_with (fail)
        refine done_mk ?_ rfl (Ext.refl _)
        rfl
      case oaq3r2 =>
        intro x U hU
        simp only [depV, One, dstOf, readDst, asBool, VP.is, VP.any, VP.row, VP.ptr, VP.blk, VP.ex, VP.and, VP.of, List.getD_cons_zero, List.getD_cons_succ]
        intro d1
        simp only [d1]
        have c0 := (bs1.ext hU).cell 2
        go_wp2_with (fail)
        refine done_mk ?_ rfl (Ext.refl _)
        rfl
      case oaq3r3 =>
        intro x U hU
        simp only [depV, One, dstOf, readDst, asBool, VP.is, VP.any, VP.row, VP.ptr, VP.blk, VP.ex, VP.and, VP.of, List.getD_cons_zero, List.getD_cons_succ]
        intro d0
        intro d2
        simp only [d0, d2]
        go_wp2_with ((refine (HDT.out _ (hxx.trans hU)).mono ?_; rintro e w9 ⟨rfl, hx9⟩))
        refine done_mk ?_ rfl (hx9)
        rfl
      case oaq3r4 =>
        intro x U hU
        simp only [depV, One, dstOf, readDst, asBool, VP.is, VP.any, VP.row, VP.ptr, VP.blk, VP.ex, VP.and, VP.of, List.getD_cons_zero, List.getD_cons_succ]
        go_wp2_with (fail)
        refine done_mk ?_ rfl (Ext.refl _)
        rfl
      case oaq3r5 =>
        intro x U hU
        simp only [depV, One, dstOf, readDst, asBool, VP.is, VP.any, VP.row, VP.ptr, VP.blk, VP.ex, VP.and, VP.of, List.getD_cons_zero, List.getD_cons_succ]
        go_wp2_with (fail)
        refine done_mk ?_ rfl (Ext.refl _)
        rfl
      case oaq3r6 =>
        intro x U hU
        simp only [depV, One, dstOf, readDst, asBool, VP.is, VP.any, VP.row, VP.ptr, VP.blk, VP.ex, VP.and, VP.of, List.getD_cons_zero, List.getD_cons_succ]
        intro d5
        simp only [d5]
        have c0 := (bs1.ext hU).cell 3
        go_wp2_with (fail)
        refine done_mk ?_ rfl (Ext.refl _)
        rfl
      case oaq3r7 =>
        intro x U hU
        simp only [depV, One, dstOf, readDst, asBool, VP.is, VP.any, VP.row, VP.ptr, VP.blk, VP.ex, VP.and, VP.of, List.getD_cons_zero, List.getD_cons_succ]
        intro d4
        intro d6
        simp only [d4, d6]
        go_wp2_with ((refine (HDE.out _ (hxx.trans hU)).mono ?_; rintro e w9 ⟨rfl, hx9⟩))
        refine done_mk ?_ rfl (hx9)
        rfl
      case oaq3r8 =>
        intro x U hU
        simp only [depV, One, dstOf, readDst, asBool, VP.is, VP.any, VP.row, VP.ptr, VP.blk, VP.ex, VP.and, VP.of, List.getD_cons_zero, List.getD_cons_succ]
        intro d3
        simp only [d3]
        go_wp2_with (fail)
        refine done_mk ?_ rfl (Ext.refl _)
        rfl
      case oaq3r9 =>
        intro x U hU
        simp only [depV, One, dstOf, readDst, asBool, VP.is, VP.any, VP.row, VP.ptr, VP.blk, VP.ex, VP.and, VP.of, List.getD_cons_zero, List.getD_cons_succ]
        intro d7
        simp only [d7]
        go_wp2_with (fail)
        refine done_mk ?_ rfl (Ext.refl _)
        rfl
      case finaq3r =>
        intro x U hU
        simp only [allV, depV, One, dstOf, readDst, asBool, VP.is, VP.any, VP.row, VP.ptr, VP.blk, VP.ex, VP.and, VP.of, List.getD_cons_zero, List.getD_cons_succ]
        intro d0
        intro d1
        intro d2
        intro d3
        intro d4
        intro d5
        intro d6
        intro d7
        intro d8
        intro d9
        simp only [d0, d1, d2, d3, d4, d5, d6, d7, d8, d9]
        clear d0 d1 d2 d3 d4 d5 d6 d7 d8 d9
        have hxu := hxx.trans hU
        have bsu := bs1.ext hU
        have ymax : decide (max da db ≤ 255) = true := by simp; omega
        have s0 := (bsu).cell 0
        have s1 := (bsu).cell 1
        have s2 := (bsu).cell 2
        have s3 := (bsu).cell 3
        go_wp2_with fail
        clear s0 s1 s2 s3
        refine (putLK gk gp n base bk pl far (.slice vA bk.length vc) W _ ([⟨co, da, db, k⟩]) (U).heap.size 1 rfl (by omega) (by omega) hne (HL.out.ext ((hxu).alloc _)) (Blk.new U _ _) (PU.of_ext ((hxu).alloc _)) hv (hxu).size hgk hbase).mono ?_
        rintro e w9 ⟨⟨u9, rfl⟩, h9⟩
        go_wp2_with fail
        refine bodyPost_ret (results_none rfl _ _ _) rfl ?_
        exact ⟨⟨_, rfl⟩, by rw [Int.add_zero]; exact h9⟩
    · rw [if_neg near] at hR2
      have w32a : IntKind.u32.wrap da = da := IntWalk.u32_in _ (by omega)
      have w32b : IntKind.u32.wrap db = db := IntWalk.u32_in _ (by omega)
      have w32c : IntKind.u32.wrap (da + 1) = da + 1 := IntWalk.u32_in _ (by omega)
      subst hR2
      go_enter Try.func64, Try.ntmps64
      go_wp2_with fail
      refine (HO.out _).mono ?_
      rintro e w1 ⟨rfl, hx1⟩
      have hxx := hx.trans hx1
      have bs1 := bs.ext hx1
      have s0 := (bs1).cell 0
      have s1 := (bs1).cell 1
      have s2 := (bs1).cell 2
      have s3 := (bs1).cell 3
      go_wp2_with fail
      clear s0 s1 s2 s3
      refine wp_region_mono rfl [.is ?vaq4r0, .is ?vaq4r1, .is (.int .i64 th), .is (.int .i64 da), .is ?vaq4r4, .is ?vaq4r5, .is (.int .i64 el), .is (.int .i64 db), .is (.int .i64 da), .is (.int .i64 db)] (by kernel_rfl) (by kernel_rfl) ?Aaq4r ?hAaq4r ⟨?oaq4r0, ?oaq4r1, ?oaq4r2, ?oaq4r3, ?oaq4r4, ?oaq4r5, ?oaq4r6, ?oaq4r7, ?oaq4r8, ?oaq4r9, trivial⟩ ?finaq4r
      case hAaq4r => (intro x; simp only [fillOps, Act.put, List.setIfInBounds_toArray, List.set_cons_zero, List.set_cons_succ, Nat.reduceAdd]; rfl)
      case oaq4r0 =>
        intro x U hU
        simp only [depV, One, dstOf, readDst, asBool, VP.is, VP.any, VP.row, VP.ptr, VP.blk, VP.ex, VP.and, VP.of, List.getD_cons_zero, List.getD_cons_succ]
        go_wp2_with (fail)
        refine done_mk ?_ rfl (Ext.refl _)
        rfl
      case oaq4r1 =>
        intro x U hU
        simp only [depV, One, dstOf, readDst, asBool, VP.is, VP.any, VP.row, VP.ptr, VP.blk, VP.ex, VP.and, VP.of, List.getD_cons_zero, List.getD_cons_succ]
        go_wp2_with (fail)
        refine done_mk ?_ rfl (Ext.refl _)
        rfl
      case oaq4r2 =>
        intro x U hU
        simp only [depV, One, dstOf, readDst, asBool, VP.is, VP.any, VP.row, VP.ptr, VP.blk, VP.ex, VP.and, VP.of, List.getD_cons_zero, List.getD_cons_succ]
        intro d1
        simp only [d1]
        have c0 := (bs1.ext hU).cell 2
        go_wp2_with (fail)
        refine done_mk ?_ rfl (Ext.refl _)
        rfl
      case oaq4r3 =>
        intro x U hU
        simp only [depV, One, dstOf, readDst, asBool, VP.is, VP.any, VP.row, VP.ptr, VP.blk, VP.ex, VP.and, VP.of, List.getD_cons_zero, List.getD_cons_succ]
        intro d0
        intro d2
        simp only [d0, d2]
        go_wp2_with ((refine (HDT.out _ (hxx.trans hU)).mono ?_; rintro e w9 ⟨rfl, hx9⟩))
        refine done_mk ?_ rfl (hx9)
        rfl
      case oaq4r4 =>
        intro x U hU
        simp only [depV, One, dstOf, readDst, asBool, VP.is, VP.any, VP.row, VP.ptr, VP.blk, VP.ex, VP.and, VP.of, List.getD_cons_zero, List.getD_cons_succ]
        go_wp2_with (fail)
        refine done_mk ?_ rfl (Ext.refl _)
        rfl
      case oaq4r5 =>
        intro x U hU
        simp only [depV, One, dstOf, readDst, asBool, VP.is, VP.any, VP.row, VP.ptr, VP.blk, VP.ex, VP.and, VP.of, List.getD_cons_zero, List.getD_cons_succ]
        go_wp2_with (fail)
        refine done_mk ?_ rfl (Ext.refl _)
        rfl
      case oaq4r6 =>
        intro x U hU
        simp only [depV, One, dstOf, readDst, asBool, VP.is, VP.any, VP.row, VP.ptr, VP.blk, VP.ex, VP.and, VP.of, List.getD_cons_zero, List.getD_cons_succ]
        intro d5
        simp only [d5]
        have c0 := (bs1.ext hU).cell 3
        go_wp2_with (fail)
        refine done_mk ?_ rfl (Ext.refl _)
        rfl
      case oaq4r7 =>
        intro x U hU
        simp only [depV, One, dstOf, readDst, asBool, VP.is, VP.any, VP.row, VP.ptr, VP.blk, VP.ex, VP.and, VP.of, List.getD_cons_zero, List.getD_cons_succ]
        intro d4
        intro d6
        simp only [d4, d6]
        go_wp2_with ((refine (HDE.out _ (hxx.trans hU)).mono ?_; rintro e w9 ⟨rfl, hx9⟩))
        refine done_mk ?_ rfl (hx9)
        rfl
      case oaq4r8 =>
        intro x U hU
        simp only [depV, One, dstOf, readDst, asBool, VP.is, VP.any, VP.row, VP.ptr, VP.blk, VP.ex, VP.and, VP.of, List.getD_cons_zero, List.getD_cons_succ]
        intro d3
        simp only [d3]
        go_wp2_with (fail)
        refine done_mk ?_ rfl (Ext.refl _)
        rfl
      case oaq4r9 =>
        intro x U hU
        simp only [depV, One, dstOf, readDst, asBool, VP.is, VP.any, VP.row, VP.ptr, VP.blk, VP.ex, VP.and, VP.of, List.getD_cons_zero, List.getD_cons_succ]
        intro d7
        simp only [d7]
        go_wp2_with (fail)
        refine done_mk ?_ rfl (Ext.refl _)
        rfl
      case finaq4r =>
        intro x U hU
        simp only [allV, depV, One, dstOf, readDst, asBool, VP.is, VP.any, VP.row, VP.ptr, VP.blk, VP.ex, VP.and, VP.of, List.getD_cons_zero, List.getD_cons_succ]
        intro d0
        intro d1
        intro d2
        intro d3
        intro d4
        intro d5
        intro d6
        intro d7
        intro d8
        intro d9
        simp only [d0, d1, d2, d3, d4, d5, d6, d7, d8, d9]
        clear d0 d1 d2 d3 d4 d5 d6 d7 d8 d9
        have hxu := hxx.trans hU
        have bsu := bs1.ext hU
        have ymax : decide (max da db ≤ 255) = false := by simp; omega
        have LU := HL.out.ext hxu
        have hkU := LU.k
        have g2 := hkU.cell 2
        have f2 := hkU.frozen 2
        have bs2 := bsu.far (p := ⟨gk, 2, none⟩) (by show W.heap.size ≠ gk; omega) (.int .i64 (far + 1))
        have L2 : LK gk gp n base bk pl (far + 1) (.slice vA bk.length vc) (U.setCell ⟨gk, 2, none⟩ (.int .i64 (far + 1))) :=
          ⟨hkU.set_ 2 _, LU.r.kept (grown_set U gk 2 _) (.inr (own_ne_blk LU.r hkU (by decide))), LU.q.far hne _⟩
        have HL2 := Lib.hid L2
        have hsz : W.heap.size ≤ (U.setCell ⟨gk, 2, none⟩ (.int .i64 (far + 1))).heap.size := by have := hxu.size; simpa using this
        clear LU hkU L2
        have s0 := (bs2).cell 0
        have s1 := (bs2).cell 1
        have s2 := (bs2).cell 2
        have s3 := (bs2).cell 3
        go_wp2_with fail
        clear s0 s1 s2 s3
        have hpu : PU gk (Value.slice vA bk.length vc).ownBlock W (U.setCell ⟨gk, 2, none⟩ (.int .i64 (far + 1))) := (PU.of_ext hxu).trans (PU.of_set gk 2 _ U _)
        have hsU : (U.setCell ⟨gk, 2, none⟩ (.int .i64 (far + 1))).heap.size = U.heap.size := by simp
        generalize U.setCell ⟨gk, 2, none⟩ (.int .i64 (far + 1)) = U2 at *
        have hb3 : Blk (U2.alloc (.cells #[.int .u16 co, .int .u8 0, .int .u8 1, .int .u32 k, .int .u16 5, .int .u8 0, .int .u8 0, .int .u32 (da + 1), .int .u16 5, .int .u8 0, .int .u8 0, .int .u32 db] 43)) U.heap.size 43 (pc [⟨co, 0, 1, k⟩, ⟨5, 0, 0, da + 1⟩, ⟨5, 0, 0, db⟩]).toArray := by rw [← hsU]; exact Blk.new _ _ _
        have hE3 := (Ext.refl U2).alloc (.cells #[.int .u16 co, .int .u8 0, .int .u8 1, .int .u32 k, .int .u16 5, .int .u8 0, .int .u8 0, .int .u32 (da + 1), .int .u16 5, .int .u8 0, .int .u8 0, .int .u32 db] 43)
        refine (putLK gk gp n base bk pl (far + 1) (.slice vA bk.length vc) W _ [⟨co, 0, 1, k⟩, ⟨5, 0, 0, da + 1⟩, ⟨5, 0, 0, db⟩] U.heap.size 3 rfl (by omega) (by omega) hne (HL2.out.ext hE3) hb3 (hpu.trans (PU.of_ext hE3)) hv hxu.size hgk hbase).mono ?_
        clear hsU hb3
        rintro e w9 ⟨⟨u9, rfl⟩, h9⟩
        go_wp2_with fail
        go_end0
        exact ⟨⟨_, rfl⟩, h9⟩
end Go.Proofs.Ytjlhfmedaandeaa
