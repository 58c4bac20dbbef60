import Derived.Test.YtjlhfmedaandeaaPrg
import Derived.Lib.SliceRun
import Derived.Test.YtjlhfmedaandeaaChkA
import Derived.Test.YtjlhfmedaandeaaChunk
import Derived.BigGuardIn
import Derived.Maps.OwnIn
import Derived.Test.YtjlhfmedaandeaaInsnB
/- slices.Compact of at most two numbers. -/
namespace Go.Proofs.Ytjlhfmedaandeaa
open Go.RowKit Go.ChangeShapes Go.WideShapes
set_option linter.unusedVariables false
set_option linter.unusedSimpArgs false

theorem grown_trans {a b c : World} {row : Option Nat} (h : a.grownBy b row) (k : b.grownBy c row) : a.grownBy c row :=
  ⟨k.os.trans h.os, k.tape.trans h.tape, k.output.trans h.output, Nat.le_trans h.size k.size, fun i hi hr => (k.block i (Nat.lt_of_lt_of_le hi h.size) hr).trans (h.block i hi hr)⟩
theorem grown_set (w : World) (g i : Nat) (u : Value) : w.grownBy (w.setCell ⟨g, i, none⟩ u) (some g) :=
  ⟨rfl, rfl, rfl, by simp, fun k _ hk => heap_setCell_other w ⟨g, i, none⟩ k u (fun e => hk (by simp [e]))⟩
theorem clear_one (g c : Nat) (u : Value) (w : World) (ty : TypeId) (h1 : w.cell? ⟨g, 1, none⟩ = some u) (hf : w.frozen? ⟨g, 1, none⟩ = false) :
    (Builtin.clear_ #[67] ty #[.slice (some ⟨g, 1, none⟩) 1 c]).run Try.prog w = .ok (.tuple #[]) (w.setCell ⟨g, 1, none⟩ (.int .i64 0)) := by
  have hc : ∀ j, j < 1 → (w.cell? ⟨g, 1 + j, none⟩).isSome = true := fun j hj => by
    have : j = 0 := by omega
    subst this
    simp [h1]
  have hf' : ∀ j, j < 1 → w.frozen? ⟨g, 1 + j, none⟩ = false := fun j hj => by
    have : j = 0 := by omega
    subst this
    simpa using hf
  have := Lib.run_clear_slice (P := Try.prog) w 67 3 ty (.int .i64 0) Try.underlying67 (fun _ => by kernel_rfl) rfl rfl g 1 1 c (by decide) hc hf'
  rw [this]
  simp [World.setCells]
theorem wpList_clear1 {w : World} {ops : Array Oper} {rest : List Oper} {o : Oper} {a : Act} {Q : Exit → Act → World → Prop} (hgd : o.guard = none) (x : Operand)
    (ho : o.op = .call { callee := .builtin .clear, args := #[x], argTypes := #[67] }) (g c : Nat) (u : Value) (hx : a.eval x = .slice (some ⟨g, 1, none⟩) 1 c) (h1 : w.cell? ⟨g, 1, none⟩ = some u) (hf : w.frozen? ⟨g, 1, none⟩ = false)
    (h : wpList Try.prog ops Q rest (a.put o.dst (.tuple #[])) (w.setCell ⟨g, 1, none⟩ (.int .i64 0))) : wpList Try.prog ops Q (o :: rest) a w := by
  refine wpList_plain hgd fun K hK => ?_
  unfold Oper.wp execOp
  have hr := clear_one g c u w o.type h1 hf
  simp only [ho, resolve, invoke, builtin, Sem.run_bind, Sem.run_pure, Result.andThen_ok, List.map_toArray, List.map_cons, List.map_nil, hx, hr]
  exact hK _ _ h
theorem compact_short (A : Option Addr) (n c : Nat) (h : n < 2) (w : World) : Calls Try.prog 111 #[.slice A n c] w fun e w' => e = .returned (.slice A n c) ∧ w = w' := by
  have h2 : (n : Int) < 2 := by omega
  go_enter Try.func111, Try.ntmps111
  go_wp2
  go_ret
  exact ⟨rfl, rfl⟩
set_option maxRecDepth 100000 in
theorem compact_apart (g c : Nat) (x y : Int) (hc : 2 ≤ c ∧ c ≤ 1000000) (hne : x ≠ y) (w : World) (h0 : w.cell? ⟨g, 0, none⟩ = some (.int .i64 x)) (h1 : w.cell? ⟨g, 1, none⟩ = some (.int .i64 y)) :
    Calls Try.prog 111 #[.slice (some ⟨g, 0, none⟩) 2 c] w fun e w' => e = .returned (.slice (some ⟨g, 0, none⟩) 2 c) ∧ Ext w w' := by
  have d1 : (y == x) = false := by simpa using Ne.symm hne
  have hd : ∀ {w w' : World} {p : Addr} {u : Value}, Ext w w' → w.cell? p = some u → w'.cell? p = some u := fun e h => e.cell h
  have H0 := Lib.hid (fun (W : World) (e : Ext w W) => e.cell h0)
  have H1 := Lib.hid (fun (W : World) (e : Ext w W) => e.cell h1)
  clear hne hd h0 h1
  go_enter Try.func111, Try.ntmps111
  go_wp2
  go_loopw [3] (fun i wr => Ext w wr ∧ (i = .int .i64 1 ∨ i = .int .i64 2)) (fun i _ => 2 - (intOf i).toNat)
  case atStart => exact ⟨Ext.refl _, .inl rfl⟩
  case round =>
    obtain ⟨hx, rfl | rfl⟩ := hrel
    · go_wp2_with fail
      refine wp_region_mono rfl [.is ?va0, .is ?va1, .is ?va2, .is ?va3, .is ?va4, .is ?va5, .is ?va6, .is ?va7, .is ?va8, .is ?va9] (by kernel_rfl) (by kernel_rfl) ?Aa ?hAa ⟨?oa0, ?oa1, ?oa2, ?oa3, ?oa4, ?oa5, ?oa6, ?oa7, ?oa8, ?oa9, trivial⟩ ?fina
      case hAa => (intro x; simp only [fillOps, Act.put, List.setIfInBounds_toArray, List.set_cons_zero, List.set_cons_succ, Nat.reduceAdd]; rfl)
      case oa0 =>
        intro x U hU
        simp only [depV, One, dstOf, readDst, asBool, VP.is, VP.any, VP.row, VP.ptr, VP.blk, VP.ex, VP.and, VP.of, List.getD_cons_zero, List.getD_cons_succ]
        go_wp2_with (fail)
        refine done_mk ?_ rfl (Ext.refl _)
        rfl
      case oa1 =>
        intro x U hU
        simp only [depV, One, dstOf, readDst, asBool, VP.is, VP.any, VP.row, VP.ptr, VP.blk, VP.ex, VP.and, VP.of, List.getD_cons_zero, List.getD_cons_succ]
        go_wp2_with (fail)
        refine done_mk ?_ rfl (Ext.refl _)
        rfl
      case oa2 =>
        intro x U hU
        simp only [depV, One, dstOf, readDst, asBool, VP.is, VP.any, VP.row, VP.ptr, VP.blk, VP.ex, VP.and, VP.of, List.getD_cons_zero, List.getD_cons_succ]
        intro d0
        intro d1
        simp only [d0, d1]
        go_wp2_with (fail)
        refine done_mk ?_ rfl (Ext.refl _)
        rfl
      case oa3 =>
        intro x U hU
        simp only [depV, One, dstOf, readDst, asBool, VP.is, VP.any, VP.row, VP.ptr, VP.blk, VP.ex, VP.and, VP.of, List.getD_cons_zero, List.getD_cons_succ]
        intro d2
        simp only [d2]
        have q1 := H1.out U (hx.trans hU)
        go_wp2_with (fail)
        refine done_mk ?_ rfl (Ext.refl _)
        rfl
      case oa4 =>
        intro x U hU
        simp only [depV, One, dstOf, readDst, asBool, VP.is, VP.any, VP.row, VP.ptr, VP.blk, VP.ex, VP.and, VP.of, List.getD_cons_zero, List.getD_cons_succ]
        go_wp2_with (fail)
        refine done_mk ?_ rfl (Ext.refl _)
        rfl
      case oa5 =>
        intro x U hU
        simp only [depV, One, dstOf, readDst, asBool, VP.is, VP.any, VP.row, VP.ptr, VP.blk, VP.ex, VP.and, VP.of, List.getD_cons_zero, List.getD_cons_succ]
        go_wp2_with (fail)
        refine done_mk ?_ rfl (Ext.refl _)
        rfl
      case oa6 =>
        intro x U hU
        simp only [depV, One, dstOf, readDst, asBool, VP.is, VP.any, VP.row, VP.ptr, VP.blk, VP.ex, VP.and, VP.of, List.getD_cons_zero, List.getD_cons_succ]
        intro d5
        simp only [d5]
        go_wp2_with (fail)
        refine done_mk ?_ rfl (Ext.refl _)
        rfl
      case oa7 =>
        intro x U hU
        simp only [depV, One, dstOf, readDst, asBool, VP.is, VP.any, VP.row, VP.ptr, VP.blk, VP.ex, VP.and, VP.of, List.getD_cons_zero, List.getD_cons_succ]
        intro d4
        intro d6
        simp only [d4, d6]
        go_wp2_with (fail)
        refine done_mk ?_ rfl (Ext.refl _)
        rfl
      case oa8 =>
        intro x U hU
        simp only [depV, One, dstOf, readDst, asBool, VP.is, VP.any, VP.row, VP.ptr, VP.blk, VP.ex, VP.and, VP.of, List.getD_cons_zero, List.getD_cons_succ]
        intro d7
        simp only [d7]
        have q0 := H0.out U (hx.trans hU)
        go_wp2_with (fail)
        refine done_mk ?_ rfl (Ext.refl _)
        rfl
      case oa9 =>
        intro x U hU
        simp only [depV, One, dstOf, readDst, asBool, VP.is, VP.any, VP.row, VP.ptr, VP.blk, VP.ex, VP.and, VP.of, List.getD_cons_zero, List.getD_cons_succ]
        intro d3
        intro d8
        simp only [d3, d8]
        go_wp2_with (fail)
        refine done_mk ?_ rfl (Ext.refl _)
        rfl
      case fina =>
        intro x U hU
        simp only [allV, depV, One, dstOf, readDst, asBool, VP.is, VP.any, VP.row, VP.ptr, VP.blk, VP.ex, VP.and, VP.of, List.getD_cons_zero, List.getD_cons_succ]
        intro d0
        intro d1
        intro d2
        intro d3
        intro d4
        intro d5
        intro d6
        intro d7
        intro d8
        intro d9
        simp only [d0, d1, d2, d3, d4, d5, d6, d7, d8, d9]
        clear d0 d1 d2 d3 d4 d5 d6 d7 d8 d9
        go_wp2
        go_roundw
        case rel => exact ⟨hx.trans hU, .inr rfl⟩
        case measure => simp [intOf]
    · go_wp2
      go_ret
      exact ⟨rfl, hx⟩
set_option maxRecDepth 100000 in
theorem compact_same (g c : Nat) (x : Int) (hc : 2 ≤ c ∧ c ≤ 1000000) (cs : Array Value) (w : World) (hb : Blk w g 3 cs) (h0 : cs[0]? = some (.int .i64 x)) (h1 : cs[1]? = some (.int .i64 x)) :
    Calls Try.prog 111 #[.slice (some ⟨g, 0, none⟩) 2 c] w fun e w' => e = .returned (.slice (some ⟨g, 0, none⟩) 1 c) ∧ Blk w' g 3 (cs.setIfInBounds 1 (.int .i64 0)) ∧ w.grownBy w' (some g) := by
  have d1 : (x == x) = true := by simp
  have H0 := Lib.hid (fun (W : World) (e : Ext w W) => ((hb.ext e).cell 0).trans h0)
  have H1 := Lib.hid (fun (W : World) (e : Ext w W) => ((hb.ext e).cell 1).trans h1)
  have HF := Lib.hid (fun (W : World) (e : Ext w W) => ((hb.ext e).frozen 1))
  have HB := Lib.hid hb
  clear h0 h1 hb
  go_enter Try.func111, Try.ntmps111
  go_wp2
  go_loopw [3] (fun i wr => Ext w wr ∧ i = .int .i64 1) (fun i _ => 2 - (intOf i).toNat)
  case atStart => exact ⟨Ext.refl _, rfl⟩
  case round =>
    obtain ⟨hx, rfl⟩ := hrel
    go_wp2_with fail
    refine wp_region_mono rfl [.is ?vaq2r0, .is ?vaq2r1, .is ?vaq2r2, .is ?vaq2r3, .is ?vaq2r4, .is ?vaq2r5, .is ?vaq2r6, .is ?vaq2r7, .is ?vaq2r8, .is ?vaq2r9] (by kernel_rfl) (by kernel_rfl) ?Aaq2r ?hAaq2r ⟨?oaq2r0, ?oaq2r1, ?oaq2r2, ?oaq2r3, ?oaq2r4, ?oaq2r5, ?oaq2r6, ?oaq2r7, ?oaq2r8, ?oaq2r9, trivial⟩ ?finaq2r
    case hAaq2r => (intro x; simp only [fillOps, Act.put, List.setIfInBounds_toArray, List.set_cons_zero, List.set_cons_succ, Nat.reduceAdd]; rfl)
    case oaq2r0 =>
      intro x U hU
      simp only [depV, One, dstOf, readDst, asBool, VP.is, VP.any, VP.row, VP.ptr, VP.blk, VP.ex, VP.and, VP.of, List.getD_cons_zero, List.getD_cons_succ]
      go_wp2_with (fail)
      refine done_mk ?_ rfl (Ext.refl _)
      rfl
    case oaq2r1 =>
      intro x U hU
      simp only [depV, One, dstOf, readDst, asBool, VP.is, VP.any, VP.row, VP.ptr, VP.blk, VP.ex, VP.and, VP.of, List.getD_cons_zero, List.getD_cons_succ]
      go_wp2_with (fail)
      refine done_mk ?_ rfl (Ext.refl _)
      rfl
    case oaq2r2 =>
      intro x U hU
      simp only [depV, One, dstOf, readDst, asBool, VP.is, VP.any, VP.row, VP.ptr, VP.blk, VP.ex, VP.and, VP.of, List.getD_cons_zero, List.getD_cons_succ]
      intro d0
      intro d1
      simp only [d0, d1]
      go_wp2_with (fail)
      refine done_mk ?_ rfl (Ext.refl _)
      rfl
    case oaq2r3 =>
      intro x U hU
      simp only [depV, One, dstOf, readDst, asBool, VP.is, VP.any, VP.row, VP.ptr, VP.blk, VP.ex, VP.and, VP.of, List.getD_cons_zero, List.getD_cons_succ]
      intro d2
      simp only [d2]
      have q1 := H1.out U (hx.trans hU)
      go_wp2_with (fail)
      refine done_mk ?_ rfl (Ext.refl _)
      rfl
    case oaq2r4 =>
      intro x U hU
      simp only [depV, One, dstOf, readDst, asBool, VP.is, VP.any, VP.row, VP.ptr, VP.blk, VP.ex, VP.and, VP.of, List.getD_cons_zero, List.getD_cons_succ]
      go_wp2_with (fail)
      refine done_mk ?_ rfl (Ext.refl _)
      rfl
    case oaq2r5 =>
      intro x U hU
      simp only [depV, One, dstOf, readDst, asBool, VP.is, VP.any, VP.row, VP.ptr, VP.blk, VP.ex, VP.and, VP.of, List.getD_cons_zero, List.getD_cons_succ]
      go_wp2_with (fail)
      refine done_mk ?_ rfl (Ext.refl _)
      rfl
    case oaq2r6 =>
      intro x U hU
      simp only [depV, One, dstOf, readDst, asBool, VP.is, VP.any, VP.row, VP.ptr, VP.blk, VP.ex, VP.and, VP.of, List.getD_cons_zero, List.getD_cons_succ]
      intro d5
      simp only [d5]
      go_wp2_with (fail)
      refine done_mk ?_ rfl (Ext.refl _)
      rfl
    case oaq2r7 =>
      intro x U hU
      simp only [depV, One, dstOf, readDst, asBool, VP.is, VP.any, VP.row, VP.ptr, VP.blk, VP.ex, VP.and, VP.of, List.getD_cons_zero, List.getD_cons_succ]
      intro d4
      intro d6
      simp only [d4, d6]
      go_wp2_with (fail)
      refine done_mk ?_ rfl (Ext.refl _)
      rfl
    case oaq2r8 =>
      intro x U hU
      simp only [depV, One, dstOf, readDst, asBool, VP.is, VP.any, VP.row, VP.ptr, VP.blk, VP.ex, VP.and, VP.of, List.getD_cons_zero, List.getD_cons_succ]
      intro d7
      simp only [d7]
      have q0 := H0.out U (hx.trans hU)
      go_wp2_with (fail)
      refine done_mk ?_ rfl (Ext.refl _)
      rfl
    case oaq2r9 =>
      intro x U hU
      simp only [depV, One, dstOf, readDst, asBool, VP.is, VP.any, VP.row, VP.ptr, VP.blk, VP.ex, VP.and, VP.of, List.getD_cons_zero, List.getD_cons_succ]
      intro d3
      intro d8
      simp only [d3, d8]
      go_wp2_with (fail)
      refine done_mk ?_ rfl (Ext.refl _)
      rfl
    case finaq2r =>
      intro x U hU
      simp only [allV, depV, One, dstOf, readDst, asBool, VP.is, VP.any, VP.row, VP.ptr, VP.blk, VP.ex, VP.and, VP.of, List.getD_cons_zero, List.getD_cons_succ]
      intro d0
      intro d1
      intro d2
      intro d3
      intro d4
      intro d5
      intro d6
      intro d7
      intro d8
      intro d9
      simp only [d0, d1, d2, d3, d4, d5, d6, d7, d8, d9]
      clear d0 d1 d2 d3 d4 d5 d6 d7 d8 d9
      have q1 := H1.out U (hx.trans hU)
      have qf := HF.out U (hx.trans hU)
      go_wp2
      go_loop [3, 5] (fun k i => k = .int .i64 1 ∧ i = .int .i64 1) (fun _ _ => 0)
      case atStart => exact ⟨rfl, rfl⟩
      case round =>
        obtain ⟨rfl, rfl⟩ := hrel
        go_wp2_with (refine wpList_clear1 rfl (.tmp 56) rfl g (c - 1) _ rfl q1 qf ?_)
        go_ret
        exact ⟨rfl, Blk.set_ (HB.out.ext (hx.trans hU)) 1 _, grown_trans (grown_of_ext (hx.trans hU) _) (grown_set U g 1 _)⟩
end Go.Proofs.Ytjlhfmedaandeaa

/- Where an instruction leads to: cells.ways. -/
namespace Go.Proofs.Ytjlhfmedaandeaa
open Go.RowKit Go.ChangeShapes Go.WideShapes
set_option linter.unusedVariables false
set_option linter.unusedSimpArgs false
attribute [local go_sem] Oper.semAt_some

/-- Where an instruction leads to, whatever the size. -/
def wayRaw (i : Ins) (a : Int) : List Int :=
  if clsOf i.code == 0 || clsOf i.code == 5 then [] else
  if clsOf i.code == 4 then (if i.code == 5 then [a + 1 + i.k] else if i.jt == i.jf then [a + 1 + min i.jt i.jf] else [a + 1 + min i.jt i.jf, a + 1 + max i.jt i.jf]) else [a + 1]
def wayL (i : Ins) (a size : Int) : List Int := (wayRaw i a).takeWhile fun n => decide (n < size)
theorem takeWhile_stop {p : Int → Bool} : ∀ (L : List Int) (k : Nat) (hk : k < L.length), (∀ x ∈ L.take k, p x = true) → p L[k] = false → L.takeWhile p = L.take k
  | x :: L, 0, _, _, h => by simp only [List.takeWhile_cons]; rw [show p x = false from h]; rfl
  | x :: L, k + 1, hk, ha, h => by
    have h1 : p x = true := ha x (by simp)
    simp only [List.takeWhile_cons, h1, if_true, List.take_succ_cons]
    congr 1
    exact takeWhile_stop L k (by simpa using hk) (fun y hy => ha y (by simp [hy])) (by simpa using h)
theorem takeWhile_all {p : Int → Bool} : ∀ (L : List Int), (∀ x ∈ L, p x = true) → L.takeWhile p = L
  | [], _ => rfl
  | x :: L, h => by
    simp only [List.takeWhile_cons, h x (by simp), if_true]
    rw [takeWhile_all L fun y hy => h y (by simp [hy])]
theorem mem_takeWhile_at {p : Int → Bool} : ∀ (L : List Int) (k : Nat) (hk : k < L.length), (∀ x ∈ L.take (k + 1), p x = true) → L[k] ∈ L.takeWhile p
  | x :: L, 0, _, h => by
    simp only [List.takeWhile_cons, h x (by simp), if_true]
    exact List.mem_cons_self ..
  | x :: L, k + 1, hk, h => by
    simp only [List.takeWhile_cons, h x (by simp), if_true]
    exact List.mem_cons_of_mem _ (mem_takeWhile_at L k (by simpa using hk) (fun y hy => h y (by simp [hy])))

set_option maxHeartbeats 4000000 in
set_option maxRecDepth 100000 in
theorem ways1_in (l s3 s4 s5 B : Nat) (i : Ins) (hi : i.ok) (a size : Nat) (ha : a ≤ 100000 ∧ size ≤ 100000) (Own : World → Nat → Prop) (Bd : World → Prop) (J : List Int → World → Prop) (hJ : AbidesFrom B J) (hBd : ∀ pre W, J pre W → Bd W)
    (hlt : ∀ W b, Bd W → Own W b → b < W.heap.size) (hst : ∀ W W' b, Bd W → Ext W W' → Own W' b → Own W b) (hS : ∀ W, Bd W → ¬ Own W s3 ∧ ¬ Own W s4 ∧ ¬ Own W s5)
    (hY : ∀ pre x W, J pre W → pre.length < 2 → x ∈ wayL i a size → YieldAt .wide 1 Try.prog l #[.int .i64 x] W fun e W' => e = .returned (.bool true) ∧ J (pre ++ [x]) W' ∧ KpO Own W W')
    (W : World) (h3 : Blk W s3 43 i.cells) (h4 : Blk W s4 3 #[.int .i64 a]) (h5 : Blk W s5 3 #[.int .i64 size]) (h0 : J [] W) :
    CallsIn .wide 2 Try.prog 110 #[.func (.yield l) #[] #[], .pointer (some ⟨s3, 0, none⟩), .pointer (some ⟨s4, 0, none⟩), .pointer (some ⟨s5, 0, none⟩)] W fun e W' => (∃ v, e = .returned v) ∧ ∃ xs, xs = wayL i a size ∧ J xs W' := by
  have HK := Lib.hid (fun W => of_any i.code W)
  have q0 := h3.cell 0
  have fresh : ∀ (W' : World) (g : Nat), Ext W W' → W.heap.size ≤ g → ¬ Own W' g := fun W' g e hg ho => by
    have := hlt W g (hBd _ _ h0) (hst W W' g (hBd _ _ h0) e ho)
    omega
  have hJe : ∀ (W' : World), Ext W W' → J [] W' := fun W' e => hJ _ _ _ none h0 (grown_of_ext e none) (fun r e => by cases e)
  have HJ := Lib.hid hJe
  have HF := Lib.hid fresh
  clear fresh hJe hlt hst hJ
  obtain ⟨co, jt, jf, k⟩ := i
  have hraw : wayRaw ⟨co, jt, jf, k⟩ a = wayRaw ⟨co, jt, jf, k⟩ a := rfl
  conv at hraw => rhs; unfold wayRaw clsOf; dsimp only
  dsimp only [Ins.cells] at h3 q0 HK
  generalize (byE co).1.cls = q at *
  obtain ⟨_, ⟨j0, j1⟩, ⟨f0, f1⟩, k0, k1⟩ := hi
  have k1 : k < 4294967296 := by have h : k < 256 ^ 4 := k1; omega
  dsimp only at j0 j1 f0 f1 k0
  have a1 := ha.1
  have a2 := ha.2
  clear ha
  by_cases hq : q = 0 ∨ q = 5
  · have hr : wayRaw ⟨co, jt, jf, k⟩ a = [] := by rw [hraw]; rcases hq with rfl | rfl <;> rfl
    clear hraw
    rcases hq with rfl | rfl
    all_goals
      refine callsIn_of_wp Try.func110 rfl trivial ?_ rfl
      simp only [Try.ntmps110, List.size_toArray, List.length_cons, List.length_nil, Nat.reduceAdd, Nat.reduceSub, Array.replicate_succ, Array.replicate_zero, List.push_toArray, List.append_toArray, List.nil_append, List.cons_append]
      gi_wp2_with fail
      gi_wp2_with (first | (refine ⟨trivial, ?_⟩; gi_at_call 35; refine ((callsIn_wide (n := 1)).2 (HK.out _)).mono ?_; rintro e w1 ⟨rfl, hx1⟩) | (refine ⟨trivial, ?_⟩; gi_at_call 111; refine ((callsIn_wide (n := 1)).2 (compact_short none 0 0 (by decide) _)).mono ?_; rintro e w2 ⟨rfl, rfl⟩))
      gi_loopw [51] (fun k wr => k = .int .i64 0 ∧ wr = w1) (fun _ _ => 0)
      case atStart => exact ⟨rfl, rfl⟩
      case round =>
        obtain ⟨rfl, rfl⟩ := hrel
        gi_wp2
        go_end0
        exact ⟨⟨_, rfl⟩, [], by unfold wayL; rw [hr]; rfl, HJ.out _ hx1⟩
  · have hq0 : (q == 0) = false := by simp; omega
    have hq5 : (q == 5) = false := by simp; omega
    rw [hq0, hq5] at hraw
    simp only [Bool.or_false, Bool.false_eq_true, if_false] at hraw
    have s1 : IntKind.i64.wrap ((a : Int) + 1) = (a : Int) + 1 := IntWalk.i64_in _ (by omega)
    clear hq
    by_cases hq4 : q = 4
    · subst hq4
      simp only [beq_self_eq_true, if_true] at hraw
      by_cases h5c : co = 5
      · subst h5c
        simp only [beq_self_eq_true, if_true] at hraw
        have s2 : IntKind.i64.wrap k = k := IntWalk.i64_in _ (by omega)
        have s3' : IntKind.i64.wrap ((a : Int) + 1 + k) = (a : Int) + 1 + k := IntWalk.i64_in _ (by omega)
        generalize hz : (a : Int) + 1 + k = z at *
        refine callsIn_of_wp Try.func110 rfl trivial ?_ rfl
        simp only [Try.ntmps110, List.size_toArray, List.length_cons, List.length_nil, Nat.reduceAdd, Nat.reduceSub, Array.replicate_succ, Array.replicate_zero, List.push_toArray, List.append_toArray, List.nil_append, List.cons_append]
        gi_wp2_with fail
        gi_wp2_with (first | (refine ⟨trivial, ?_⟩; gi_at_call 35; refine ((callsIn_wide (n := 1)).2 (HK.out _)).mono ?_; rintro e w1 ⟨rfl, hx1⟩; have p0 := (h3.ext hx1).cell 0; have p1 := (h3.ext hx1).cell 1; have p2 := (h3.ext hx1).cell 2; have p3 := (h3.ext hx1).cell 3; have p4 := (h4.ext hx1).cell 0; have r0 := fun o : Obj => ((h3.ext hx1).alloc o).cell 0; have r3 := fun o : Obj => ((h3.ext hx1).alloc o).cell 3; have r4 := fun o : Obj => ((h4.ext hx1).alloc o).cell 0) | (refine ⟨trivial, ?_⟩; gi_at_call 111; refine ((callsIn_wide (n := 1)).2 (compact_short _ 1 1 (by decide) _)).mono ?_; rintro e w2 ⟨rfl, rfl⟩))
        have hgL := Blk.new_ (w := w1.alloc (.cells #[.int .i64 ((a : Int) + 1 + min jt jf), .int .i64 ((a : Int) + 1 + max jt jf)] 3)) (t := 3) (cs := #[.int .i64 z]) (g := w1.heap.size + 1) (by simp)
        have hx2 := (hx1.alloc (.cells #[.int .i64 ((a : Int) + 1 + min jt jf), .int .i64 ((a : Int) + 1 + max jt jf)] 3)).alloc (.cells #[.int .i64 z] 3)
        have hJ1 : J (List.take 0 [z]) _ := HJ.out _ hx2
        have hoL := HF.out _ (w1.heap.size + 1) hx2 (by have := hx1.size; omega)
        have hB5 := h5.ext hx2
        generalize (w1.alloc (.cells #[.int .i64 ((a : Int) + 1 + min jt jf), .int .i64 ((a : Int) + 1 + max jt jf)] 3)).alloc (.cells #[.int .i64 z] 3) = w2 at *
        generalize w1.heap.size + 1 = gL at *
        have hL := hraw
        have hcs : ∀ k (hk : k < [z].length), (#[Value.int .i64 z] : Array Value)[k]? = some (.int .i64 [z][k]) := fun k hk => by
          (obtain rfl : k = 0 := by simpa using hk); rfl
        generalize hcs' : (#[Value.int .i64 z] : Array Value) = cs at *
        have hLn := Lib.hid (show [z].length = 1 from rfl)
        generalize [z] = L at *
        clear hraw hcs' HK HJ HF q0 p0 p1 p2 p3 p4 r0 r3 r4 h3 h4 h5 h0 hx1 hx2 s1 s2 s3' hz
        gi_loopw [51] (fun k wr => ∃ kk : Nat, kk ≤ 1 ∧ k = .int .i64 kk ∧ (∀ x ∈ L.take kk, decide (x < (size : Int)) = true) ∧ J (L.take kk) wr ∧ Blk wr gL 3 cs ∧ ¬ Own wr gL ∧ Blk wr s5 3 #[.int .i64 size]) (fun k _ => 1 - (intOf k).toNat)
        case atStart => exact ⟨0, Nat.zero_le _, rfl, (fun x hx => by simp at hx), hJ1, hgL, hoL, hB5⟩
        case round =>
          clear hJ1 hgL hoL hB5
          obtain ⟨k, hk, rfl, hall, hJk, hgL, hoL, hB5⟩ := hrel
          by_cases hlt0 : k < 1
          · have hlt : k < L.length := by rw [hLn.out]; exact hlt0
            have c1 := (hgL.cell k).trans (hcs k hlt)
            have c5 := hB5.cell 0
            have b1 : (0 : Int) ≤ k := by omega
            have b2 : (k : Int) < 1 := by omega
            have hst := takeWhile_stop (p := fun n => decide (n < (size : Int))) L k hlt hall
            have hsn : L.take (k + 1) = L.take k ++ [L[k]] := by rw [List.take_succ_eq_append_getElem hlt]
            have hall' : decide (L[k] < (size : Int)) = true → ∀ x ∈ L.take (k + 1), decide (x < (size : Int)) = true := fun h x hx => by
              rw [hsn] at hx
              rcases List.mem_append.1 hx with h1 | h1
              · exact hall x h1
              · rw [List.mem_singleton.1 h1]; exact h
            have hYk := fun (hd : decide (L[k] < (size : Int)) = true) => hY (L.take k) L[k] wr hJk (by have := hLn.out; rw [List.length_take]; omega) (by unfold wayL; rw [hL]; exact mem_takeWhile_at L k hlt (hall' hd))
            rw [← hsn] at hYk
            have HST := Lib.hid hst; have HALL := Lib.hid hall'
            clear hst hall' hsn hall
            generalize L[k] = y at *
            by_cases hy : y < (size : Int)
            · have d1 : decide ((size : Int) ≤ y) = false := by simp; omega
              have HA := Lib.hid (HALL.out (by simpa using hy))
              obtain ⟨fn, tmps, assign, body, hy', hR⟩ := hYk (by simpa using hy)
              clear HST HALL hy
              gi_wp2
              refine hR.mono ?_
              rintro e W3 ⟨rfl, hJ3, hK3⟩
              obtain ⟨hgL3, hoL3⟩ := hK3 _ _ _ hgL hoL
              obtain ⟨hB53, _⟩ := hK3 _ _ _ hB5 (hS wr (hBd _ _ hJk)).2.2
              gi_wp2
              go_roundw
              case rel => exact ⟨k + 1, by omega, by go_num, HA.out, hJ3, hgL3, hoL3, hB53⟩
              case measure => simp [intOf]; omega
            · have d1 : decide ((size : Int) ≤ y) = true := by simp; omega
              have HS' := HST.out (by simp; omega)
              clear HST HALL hYk
              gi_wp2
              refine ⟨(fun f h => by cases h), ?_⟩
              gi_wp2
              refine bodyPost_ret (results_none rfl _ _ _) rfl ?_
              exact ⟨⟨_, rfl⟩, _, by unfold wayL; rw [hL, HS'], hJk⟩
          · obtain rfl : k = 1 := by omega
            have hLt : L.take 1 = L := List.take_of_length_le (by rw [hLn.out]; exact Nat.le_refl _)
            have HA := takeWhile_all (p := fun n => decide (n < (size : Int))) L (by rw [hLt] at hall; exact hall)
            rw [hLt] at hJk
            gi_wp2
            go_end0
            exact ⟨⟨_, rfl⟩, _, by unfold wayL; rw [hL, HA], hJk⟩
      · have h5c' : (co == 5) = false := by simpa using h5c
        rw [h5c'] at hraw
        simp only [Bool.false_eq_true, if_false] at hraw
        clear h5c
        by_cases hj : jt = jf
        · subst hj
          simp only [beq_self_eq_true, if_true] at hraw
          have hmm : max jt jt = jt := by omega
          have hmn : min jt jt = jt := by omega
          have s3' : IntKind.i64.wrap ((a : Int) + 1 + jt) = (a : Int) + 1 + jt := IntWalk.i64_in _ (by omega)
          rw [hmn] at hraw
          generalize hz : (a : Int) + 1 + jt = z at *
          refine callsIn_of_wp Try.func110 rfl trivial ?_ rfl
          simp only [Try.ntmps110, List.size_toArray, List.length_cons, List.length_nil, Nat.reduceAdd, Nat.reduceSub, Array.replicate_succ, Array.replicate_zero, List.push_toArray, List.append_toArray, List.nil_append, List.cons_append]
          gi_wp2_with fail
          gi_wp2_with (refine ⟨trivial, ?_⟩; gi_at_call 35; refine ((callsIn_wide (n := 1)).2 (HK.out _)).mono ?_; rintro e w1 ⟨rfl, hx1⟩; have p0 := (h3.ext hx1).cell 0; have p1 := (h3.ext hx1).cell 1; have p2 := (h3.ext hx1).cell 2; have p3 := (h3.ext hx1).cell 3; have p4 := (h4.ext hx1).cell 0; have r0 := fun o : Obj => ((h3.ext hx1).alloc o).cell 0; have r3 := fun o : Obj => ((h3.ext hx1).alloc o).cell 3; have r4 := fun o : Obj => ((h4.ext hx1).alloc o).cell 0)
          refine ⟨trivial, ?_⟩
          have hgN := Blk.new w1 3 #[.int .i64 z, .int .i64 z]
          have hxN := hx1.alloc (.cells #[.int .i64 z, .int .i64 z] 3)
          refine ((callsIn_wide (n := 1)).2 (compact_same w1.heap.size 2 z (by decide) _ _ hgN rfl rfl)).mono ?_
          rintro e w2 ⟨rfl, hgL, hgr⟩
          have hx2 : Ext W w2 := hxN.grown hgr (fun k e => by cases e; exact hx1.size)
          clear hgN hxN hgr
          gi_wp2_with fail
          have hJ1 : J (List.take 0 [z]) _ := HJ.out _ hx2
          have hoL := HF.out _ w1.heap.size hx2 hx1.size
          have hB5 := h5.ext hx2
          generalize w1.heap.size = gL at *
          have hL := hraw
          have hcs : ∀ k (hk : k < [z].length), (#[Value.int .i64 z, .int .i64 z].setIfInBounds 1 (.int .i64 0) : Array Value)[k]? = some (.int .i64 [z][k]) := fun k hk => by
            (obtain rfl : k = 0 := by simpa using hk); rfl
          generalize hcs' : (#[Value.int .i64 z, .int .i64 z].setIfInBounds 1 (.int .i64 0) : Array Value) = cs at *
          have hLn := Lib.hid (show [z].length = 1 from rfl)
          generalize [z] = L at *
          clear hraw hcs' HK HJ HF q0 p0 p1 p2 p3 p4 r0 r3 r4 h3 h4 h5 h0 hx1 hx2 s1 s3' hz hmm hmn h5c'
          gi_loopw [51] (fun k wr => ∃ kk : Nat, kk ≤ 1 ∧ k = .int .i64 kk ∧ (∀ x ∈ L.take kk, decide (x < (size : Int)) = true) ∧ J (L.take kk) wr ∧ Blk wr gL 3 cs ∧ ¬ Own wr gL ∧ Blk wr s5 3 #[.int .i64 size]) (fun k _ => 1 - (intOf k).toNat)
          case atStart => exact ⟨0, Nat.zero_le _, rfl, (fun x hx => by simp at hx), hJ1, hgL, hoL, hB5⟩
          case round =>
            clear hJ1 hgL hoL hB5
            obtain ⟨k, hk, rfl, hall, hJk, hgL, hoL, hB5⟩ := hrel
            by_cases hlt0 : k < 1
            · have hlt : k < L.length := by rw [hLn.out]; exact hlt0
              have c1 := (hgL.cell k).trans (hcs k hlt)
              have c5 := hB5.cell 0
              have b1 : (0 : Int) ≤ k := by omega
              have b2 : (k : Int) < 1 := by omega
              have hst := takeWhile_stop (p := fun n => decide (n < (size : Int))) L k hlt hall
              have hsn : L.take (k + 1) = L.take k ++ [L[k]] := by rw [List.take_succ_eq_append_getElem hlt]
              have hall' : decide (L[k] < (size : Int)) = true → ∀ x ∈ L.take (k + 1), decide (x < (size : Int)) = true := fun h x hx => by
                rw [hsn] at hx
                rcases List.mem_append.1 hx with h1 | h1
                · exact hall x h1
                · rw [List.mem_singleton.1 h1]; exact h
              have hYk := fun (hd : decide (L[k] < (size : Int)) = true) => hY (L.take k) L[k] wr hJk (by have := hLn.out; rw [List.length_take]; omega) (by unfold wayL; rw [hL]; exact mem_takeWhile_at L k hlt (hall' hd))
              rw [← hsn] at hYk
              have HST := Lib.hid hst; have HALL := Lib.hid hall'
              clear hst hall' hsn hall
              generalize L[k] = y at *
              by_cases hy : y < (size : Int)
              · have d1 : decide ((size : Int) ≤ y) = false := by simp; omega
                have HA := Lib.hid (HALL.out (by simpa using hy))
                obtain ⟨fn, tmps, assign, body, hy', hR⟩ := hYk (by simpa using hy)
                clear HST HALL hy
                gi_wp2
                refine hR.mono ?_
                rintro e W3 ⟨rfl, hJ3, hK3⟩
                obtain ⟨hgL3, hoL3⟩ := hK3 _ _ _ hgL hoL
                obtain ⟨hB53, _⟩ := hK3 _ _ _ hB5 (hS wr (hBd _ _ hJk)).2.2
                gi_wp2
                go_roundw
                case rel => exact ⟨k + 1, by omega, by go_num, HA.out, hJ3, hgL3, hoL3, hB53⟩
                case measure => simp [intOf]; omega
              · have d1 : decide ((size : Int) ≤ y) = true := by simp; omega
                have HS' := HST.out (by simp; omega)
                clear HST HALL hYk
                gi_wp2
                refine ⟨(fun f h => by cases h), ?_⟩
                gi_wp2
                refine bodyPost_ret (results_none rfl _ _ _) rfl ?_
                exact ⟨⟨_, rfl⟩, _, by unfold wayL; rw [hL, HS'], hJk⟩
            · obtain rfl : k = 1 := by omega
              have hLt : L.take 1 = L := List.take_of_length_le (by rw [hLn.out]; exact Nat.le_refl _)
              have HA := takeWhile_all (p := fun n => decide (n < (size : Int))) L (by rw [hLt] at hall; exact hall)
              rw [hLt] at hJk
              gi_wp2
              go_end0
              exact ⟨⟨_, rfl⟩, _, by unfold wayL; rw [hL, HA], hJk⟩
        · have hj' : (jt == jf) = false := by simpa using hj
          rw [hj'] at hraw
          simp only [Bool.false_eq_true, if_false] at hraw
          have hlm : min jt jf < max jt jf := by omega
          have m1 : IntKind.i64.wrap (min jt jf) = min jt jf := IntWalk.i64_in _ (by omega)
          have m2 : IntKind.i64.wrap (max jt jf) = max jt jf := IntWalk.i64_in _ (by omega)
          have n1 : 0 ≤ min jt jf := by omega
          have n2 : max jt jf < 256 := by omega
          have s3' : IntKind.i64.wrap ((a : Int) + 1 + min jt jf) = (a : Int) + 1 + min jt jf := IntWalk.i64_in _ (by omega)
          have s4' : IntKind.i64.wrap ((a : Int) + 1 + max jt jf) = (a : Int) + 1 + max jt jf := IntWalk.i64_in _ (by omega)
          have hne : (a : Int) + 1 + min jt jf ≠ (a : Int) + 1 + max jt jf := by omega
          generalize hz : (a : Int) + 1 + min jt jf = z at *
          generalize hy : (a : Int) + 1 + max jt jf = y at *
          refine callsIn_of_wp Try.func110 rfl trivial ?_ rfl
          simp only [Try.ntmps110, List.size_toArray, List.length_cons, List.length_nil, Nat.reduceAdd, Nat.reduceSub, Array.replicate_succ, Array.replicate_zero, List.push_toArray, List.append_toArray, List.nil_append, List.cons_append]
          gi_wp2_with fail
          gi_wp2_with (refine ⟨trivial, ?_⟩; gi_at_call 35; refine ((callsIn_wide (n := 1)).2 (HK.out _)).mono ?_; rintro e w1 ⟨rfl, hx1⟩; have p0 := (h3.ext hx1).cell 0; have p1 := (h3.ext hx1).cell 1; have p2 := (h3.ext hx1).cell 2; have p3 := (h3.ext hx1).cell 3; have p4 := (h4.ext hx1).cell 0; have r0 := fun o : Obj => ((h3.ext hx1).alloc o).cell 0; have r3 := fun o : Obj => ((h3.ext hx1).alloc o).cell 3; have r4 := fun o : Obj => ((h4.ext hx1).alloc o).cell 0)
          refine ⟨trivial, ?_⟩
          have hgL := Blk.new w1 3 #[.int .i64 z, .int .i64 y]
          have hxN := hx1.alloc (.cells #[.int .i64 z, .int .i64 y] 3)
          refine ((callsIn_wide (n := 1)).2 (compact_apart w1.heap.size 2 z y (by decide) hne _ (hgL.cell 0) (hgL.cell 1))).mono ?_
          rintro e w2 ⟨rfl, hxc⟩
          have hx2 : Ext W w2 := hxN.trans hxc
          replace hgL := hgL.ext hxc
          clear hxN hxc
          gi_wp2_with fail
          have hJ1 : J (List.take 0 [z, y]) _ := HJ.out _ hx2
          have hoL := HF.out _ w1.heap.size hx2 hx1.size
          have hB5 := h5.ext hx2
          generalize w1.heap.size = gL at *
          have hL := hraw
          have hcs : ∀ k (hk : k < [z, y].length), (#[Value.int .i64 z, .int .i64 y] : Array Value)[k]? = some (.int .i64 [z, y][k]) := fun k hk => by
            (match k, hk with | 0, _ => rfl | 1, _ => rfl)
          generalize hcs' : (#[Value.int .i64 z, .int .i64 y] : Array Value) = cs at *
          have hLn := Lib.hid (show [z, y].length = 2 from rfl)
          generalize [z, y] = L at *
          clear hraw hcs' HK HJ HF q0 p0 p1 p2 p3 p4 r0 r3 r4 h3 h4 h5 h0 hx1 hx2 s1 s3' s4' hz hy hne hlm m1 m2 n1 n2 hj hj' h5c'
          gi_loopw [51] (fun k wr => ∃ kk : Nat, kk ≤ 2 ∧ k = .int .i64 kk ∧ (∀ x ∈ L.take kk, decide (x < (size : Int)) = true) ∧ J (L.take kk) wr ∧ Blk wr gL 3 cs ∧ ¬ Own wr gL ∧ Blk wr s5 3 #[.int .i64 size]) (fun k _ => 2 - (intOf k).toNat)
          case atStart => exact ⟨0, Nat.zero_le _, rfl, (fun x hx => by simp at hx), hJ1, hgL, hoL, hB5⟩
          case round =>
            clear hJ1 hgL hoL hB5
            obtain ⟨k, hk, rfl, hall, hJk, hgL, hoL, hB5⟩ := hrel
            by_cases hlt0 : k < 2
            · have hlt : k < L.length := by rw [hLn.out]; exact hlt0
              have c1 := (hgL.cell k).trans (hcs k hlt)
              have c5 := hB5.cell 0
              have b1 : (0 : Int) ≤ k := by omega
              have b2 : (k : Int) < 2 := by omega
              have hst := takeWhile_stop (p := fun n => decide (n < (size : Int))) L k hlt hall
              have hsn : L.take (k + 1) = L.take k ++ [L[k]] := by rw [List.take_succ_eq_append_getElem hlt]
              have hall' : decide (L[k] < (size : Int)) = true → ∀ x ∈ L.take (k + 1), decide (x < (size : Int)) = true := fun h x hx => by
                rw [hsn] at hx
                rcases List.mem_append.1 hx with h1 | h1
                · exact hall x h1
                · rw [List.mem_singleton.1 h1]; exact h
              have hYk := fun (hd : decide (L[k] < (size : Int)) = true) => hY (L.take k) L[k] wr hJk (by have := hLn.out; rw [List.length_take]; omega) (by unfold wayL; rw [hL]; exact mem_takeWhile_at L k hlt (hall' hd))
              rw [← hsn] at hYk
              have HST := Lib.hid hst; have HALL := Lib.hid hall'
              clear hst hall' hsn hall
              generalize L[k] = y at *
              by_cases hy : y < (size : Int)
              · have d1 : decide ((size : Int) ≤ y) = false := by simp; omega
                have HA := Lib.hid (HALL.out (by simpa using hy))
                obtain ⟨fn, tmps, assign, body, hy', hR⟩ := hYk (by simpa using hy)
                clear HST HALL hy
                gi_wp2
                refine hR.mono ?_
                rintro e W3 ⟨rfl, hJ3, hK3⟩
                obtain ⟨hgL3, hoL3⟩ := hK3 _ _ _ hgL hoL
                obtain ⟨hB53, _⟩ := hK3 _ _ _ hB5 (hS wr (hBd _ _ hJk)).2.2
                gi_wp2
                go_roundw
                case rel => exact ⟨k + 1, by omega, by go_num, HA.out, hJ3, hgL3, hoL3, hB53⟩
                case measure => simp [intOf]; omega
              · have d1 : decide ((size : Int) ≤ y) = true := by simp; omega
                have HS' := HST.out (by simp; omega)
                clear HST HALL hYk
                gi_wp2
                refine ⟨(fun f h => by cases h), ?_⟩
                gi_wp2
                refine bodyPost_ret (results_none rfl _ _ _) rfl ?_
                exact ⟨⟨_, rfl⟩, _, by unfold wayL; rw [hL, HS'], hJk⟩
            · obtain rfl : k = 2 := by omega
              have hLt : L.take 2 = L := List.take_of_length_le (by rw [hLn.out]; exact Nat.le_refl _)
              have HA := takeWhile_all (p := fun n => decide (n < (size : Int))) L (by rw [hLt] at hall; exact hall)
              rw [hLt] at hJk
              gi_wp2
              go_end0
              exact ⟨⟨_, rfl⟩, _, by unfold wayL; rw [hL, HA], hJk⟩
    · have hq4' : (q == 4) = false := by simpa using hq4
      rw [hq4'] at hraw
      simp only [Bool.false_eq_true, if_false] at hraw
      clear hq4
      refine callsIn_of_wp Try.func110 rfl trivial ?_ rfl
      simp only [Try.ntmps110, List.size_toArray, List.length_cons, List.length_nil, Nat.reduceAdd, Nat.reduceSub, Array.replicate_succ, Array.replicate_zero, List.push_toArray, List.append_toArray, List.nil_append, List.cons_append]
      gi_wp2_with fail
      gi_wp2_with (first | (refine ⟨trivial, ?_⟩; gi_at_call 35; refine ((callsIn_wide (n := 1)).2 (HK.out _)).mono ?_; rintro e w1 ⟨rfl, hx1⟩; have q4 := (h4.ext hx1).cell 0) | (refine ⟨trivial, ?_⟩; gi_at_call 111; refine ((callsIn_wide (n := 1)).2 (compact_short _ 1 1 (by decide) _)).mono ?_; rintro e w2 ⟨rfl, rfl⟩))
      have hgL := Blk.new w1 3 #[.int .i64 ((a : Int) + 1)]
      have hx2 := hx1.alloc (.cells #[.int .i64 ((a : Int) + 1)] 3)
      have hJ1 : J (List.take 0 [((a : Int) + 1)]) _ := HJ.out _ hx2
      have hoL := HF.out _ w1.heap.size hx2 hx1.size
      have hB5 := h5.ext hx2
      generalize w1.alloc (.cells #[.int .i64 ((a : Int) + 1)] 3) = w2 at *
      generalize w1.heap.size = gL at *
      have hL := hraw
      have hcs : ∀ k (hk : k < [((a : Int) + 1)].length), #[Value.int .i64 ((a : Int) + 1)][k]? = some (.int .i64 [((a : Int) + 1)][k]) := fun k hk => by
        obtain rfl : k = 0 := by simpa using hk
        rfl
      have hL2 : [((a : Int) + 1)].length ≤ 2 := by simp
      generalize hcs' : #[Value.int .i64 ((a : Int) + 1)] = cs at *
      have hLn := Lib.hid (show [((a : Int) + 1)].length = 1 from rfl)
      generalize [((a : Int) + 1)] = L at *
      clear hraw hcs' HK HJ HF q0 q4 h3 h4 h5 h0 hx1 hx2 s1 hL2
      gi_loopw [51] (fun k wr => ∃ kk : Nat, kk ≤ 1 ∧ k = .int .i64 kk ∧ (∀ x ∈ L.take kk, decide (x < (size : Int)) = true) ∧ J (L.take kk) wr ∧ Blk wr gL 3 cs ∧ ¬ Own wr gL ∧ Blk wr s5 3 #[.int .i64 size]) (fun k _ => 1 - (intOf k).toNat)
      case atStart => exact ⟨0, Nat.zero_le _, rfl, (fun x hx => by simp at hx), hJ1, hgL, hoL, hB5⟩
      case round =>
        clear hJ1 hgL hoL hB5
        obtain ⟨k, hk, rfl, hall, hJk, hgL, hoL, hB5⟩ := hrel
        by_cases hlt0 : k < 1
        · have hlt : k < L.length := by rw [hLn.out]; exact hlt0
          have c1 := (hgL.cell k).trans (hcs k hlt)
          have c5 := hB5.cell 0
          have b1 : (0 : Int) ≤ k := by omega
          have b2 : (k : Int) < 1 := by omega
          have hst := takeWhile_stop (p := fun n => decide (n < (size : Int))) L k hlt hall
          have hsn : L.take (k + 1) = L.take k ++ [L[k]] := by rw [List.take_succ_eq_append_getElem hlt]
          have hall' : decide (L[k] < (size : Int)) = true → ∀ x ∈ L.take (k + 1), decide (x < (size : Int)) = true := fun h x hx => by
            rw [hsn] at hx
            rcases List.mem_append.1 hx with h1 | h1
            · exact hall x h1
            · rw [List.mem_singleton.1 h1]; exact h
          have hYk := fun (hd : decide (L[k] < (size : Int)) = true) => hY (L.take k) L[k] wr hJk (by have := hLn.out; rw [List.length_take]; omega) (by unfold wayL; rw [hL]; exact mem_takeWhile_at L k hlt (hall' hd))
          rw [← hsn] at hYk
          have HST := Lib.hid hst; have HALL := Lib.hid hall'
          clear hst hall' hsn hall
          generalize L[k] = y at *
          by_cases hy : y < (size : Int)
          · have d1 : decide ((size : Int) ≤ y) = false := by simp; omega
            have HA := Lib.hid (HALL.out (by simpa using hy))
            obtain ⟨fn, tmps, assign, body, hy', hR⟩ := hYk (by simpa using hy)
            clear HST HALL hy
            gi_wp2
            refine hR.mono ?_
            rintro e W3 ⟨rfl, hJ3, hK3⟩
            obtain ⟨hgL3, hoL3⟩ := hK3 _ _ _ hgL hoL
            obtain ⟨hB53, _⟩ := hK3 _ _ _ hB5 (hS wr (hBd _ _ hJk)).2.2
            gi_wp2
            go_roundw
            case rel => exact ⟨k + 1, by omega, by go_num, HA.out, hJ3, hgL3, hoL3, hB53⟩
            case measure => simp [intOf]; omega
          · have d1 : decide ((size : Int) ≤ y) = true := by simp; omega
            have HS' := HST.out (by simp; omega)
            clear HST HALL hYk
            gi_wp2
            refine ⟨(fun f h => by cases h), ?_⟩
            gi_wp2
            refine bodyPost_ret (results_none rfl _ _ _) rfl ?_
            exact ⟨⟨_, rfl⟩, _, by unfold wayL; rw [hL, HS'], hJk⟩
        · obtain rfl : k = 1 := by omega
          have hLt : L.take 1 = L := List.take_of_length_le (by rw [hLn.out]; exact Nat.le_refl _)
          have HA := takeWhile_all (p := fun n => decide (n < (size : Int))) L (by rw [hLt] at hall; exact hall)
          rw [hLt] at hJk
          gi_wp2
          go_end0
          exact ⟨⟨_, rfl⟩, _, by unfold wayL; rw [hL, HA], hJk⟩
end Go.Proofs.Ytjlhfmedaandeaa

/- slices.Collect of the ways; cells.Next. -/
namespace Go.Proofs.Ytjlhfmedaandeaa
open Go.RowKit Go.ChangeShapes Go.WideShapes
set_option linter.unusedVariables false
set_option linter.unusedSimpArgs false
attribute [local go_sem] Oper.semAt_some

theorem ways_in (i : Ins) (a size : Int) (w : World) :
    CallsIn .wide 2 Try.prog 105 #[i.val, .int .i64 a, .int .i64 size] w fun e w' => e = .returned (.func (.func 110) #[] #[.pointer (some ⟨w.heap.size, 0, none⟩), .pointer (some ⟨w.heap.size + 1, 0, none⟩), .pointer (some ⟨w.heap.size + 2, 0, none⟩)]) ∧
      w' = ((w.alloc (.cells i.cells 43)).alloc (.cells #[.int .i64 a] 3)).alloc (.cells #[.int .i64 size] 3) := by
  obtain ⟨co, jt, jf, k⟩ := i
  simp only [Ins.val, Ins.cells]
  refine callsIn_of_wp Try.func105 rfl trivial ?_ rfl
  simp only [Try.ntmps105, List.size_toArray, List.length_cons, List.length_nil, Nat.reduceAdd, Nat.reduceSub, Array.replicate_succ, Array.replicate_zero, List.push_toArray, List.append_toArray, List.nil_append, List.cons_append]
  gi_wp2
  go_ret
  exact ⟨rfl, rfl⟩
theorem ways_tells (s3 s4 s5 : Nat) (i : Ins) (hi : i.ok) (a size : Nat) (ha : a ≤ 100000 ∧ size ≤ 100000) (Own : World → Nat → Prop) (Bd : World → Prop)
    (hlt : ∀ W b, Bd W → Own W b → b < W.heap.size) (hst : ∀ W W' b, Bd W → Ext W W' → Own W' b → Own W b) (hS : ∀ W, Bd W → ¬ Own W s3 ∧ ¬ Own W s4 ∧ ¬ Own W s5)
    (w : World) (h3 : Blk w s3 43 i.cells) (h4 : Blk w s4 3 #[.int .i64 a]) (h5 : Blk w s5 3 #[.int .i64 size]) :
    TellsB .wide 2 Try.prog 110 #[.pointer (some ⟨s3, 0, none⟩), .pointer (some ⟨s4, 0, none⟩), .pointer (some ⟨s5, 0, none⟩)] (fun x : Int => #[.int .i64 x]) (fun x _ => x ∈ wayL i a size) (KpO Own) Bd (fun xs => xs = wayL i a size) 2 w := fun l J W hW hJ hBd hY h0 =>
  ways1_in l s3 s4 s5 W.heap.size i hi a size ha Own Bd J hJ hBd hlt hst hS (fun pre x W hj hl hx => hY pre x W hj hx hl) W (h3.below hW h3.lt) (h4.below hW h4.lt) (h5.below hW h5.lt) h0

/-- The body's own blocks: a box, and the row that it holds. -/
def BoxOwn (g : Nat) (W : World) (b : Nat) : Prop := b = g ∨ ∃ v, W.cell? ⟨g, 0, none⟩ = some v ∧ v.ownBlock = some b
def BoxBd (g lo : Nat) (t : TypeId) (W : World) : Prop := g < lo ∧ ∃ v, Blk W g t #[v] ∧ ∀ r, v.ownBlock = some r → lo ≤ r ∧ r < W.heap.size
theorem boxOwn_of {g lo : Nat} {t : TypeId} {W : World} {v : Value} (h : Blk W g t #[v]) {b : Nat} : BoxOwn g W b ↔ b = g ∨ v.ownBlock = some b := by
  unfold BoxOwn
  rw [h.cell]
  constructor
  · rintro (h | ⟨u, hu, hb⟩)
    · exact .inl h
    · cases hu; exact .inr hb
  · rintro (h | h)
    · exact .inl h
    · exact .inr ⟨v, rfl, h⟩
theorem box_lt {g lo : Nat} {t : TypeId} (W : World) (b : Nat) (h : BoxBd g lo t W) (k : BoxOwn g W b) : b < W.heap.size := by
  obtain ⟨_, v, hv, hr⟩ := h
  rcases (boxOwn_of (lo := lo) hv).1 k with rfl | k
  · exact hv.lt
  · exact (hr b k).2
theorem box_st {g lo : Nat} {t : TypeId} (W W' : World) (b : Nat) (h : BoxBd g lo t W) (e : Ext W W') (k : BoxOwn g W' b) : BoxOwn g W b := by
  obtain ⟨_, v, hv, hr⟩ := h
  exact (boxOwn_of (lo := lo) hv).2 ((boxOwn_of (lo := lo) (hv.ext e)).1 k)
theorem box_not {g lo : Nat} {t : TypeId} {W : World} (h : BoxBd g lo t W) {s : Nat} (hs : s < lo) (hne : s ≠ g) : ¬ BoxOwn g W s := fun k => by
  obtain ⟨_, v, hv, hr⟩ := h
  rcases (boxOwn_of (lo := lo) hv).1 k with h | k
  · exact hne h
  · have := (hr s k).1
    omega
theorem info_int : (Try.prog.info? 3).map (fun i => (i.zero, i.size, i.bytes)) = some (some (.int .i64 0), 1, 8) := by kernel_rfl

/-- What holds between two rounds of a loop that collects numbers. -/
def CI (w : World) (z g : Nat) (pre : List Int) (W : World) : Prop :=
  (∃ v, Blk W g 67 #[v] ∧ W.ownsRow (g + 1) 3 1 v pre.length (nums .i64 pre)) ∧ Below w.heap.size w W ∧ z ≤ W.heap.size
theorem CI_own (w : World) (z g : Nat) (hz : w.heap.size ≤ z) : OwnFrom z (CI w z g) := fun pre W W' row ⟨⟨v, h1, h2⟩, h4, h5⟩ hg hr =>
  ⟨⟨v, blk_noncells h1 hg fun r e => (hr r e).2, own_noncells h2 hg fun r e => (hr r e).2⟩, h4.grown hg h4.size (fun r e => Nat.le_trans hz (hr r e).1), Nat.le_trans h5 hg.size⟩
theorem CI_bd {w : World} {z g : Nat} (pre : List Int) (W : World) (h : CI w z g pre W) : BoxBd g (g + 1) 67 W := by
  obtain ⟨⟨v, h1, h2⟩, _, _⟩ := h
  exact ⟨by omega, v, h1, fun r hr => h2.lt r hr⟩

/-- cells.Next's answer. -/
def nextL (ps : List Ins) (a : Int) : List Int :=
  if a < 0 ∨ (ps.length : Int) ≤ a ∨ 4096 < ps.length then [] else wayL (ps.getD a.toNat zeroI) a ps.length
end Go.Proofs.Ytjlhfmedaandeaa

/- The document's Next. -/
namespace Go.Proofs.Ytjlhfmedaandeaa
open Go.RowKit Go.ChangeShapes Go.WideShapes
set_option linter.unusedVariables false
set_option linter.unusedSimpArgs false

theorem wayL_one {i : Ins} {a z size : Int} (h : wayRaw i a = [z]) : wayL i a size = if z < size then [z] else [] := by
  unfold wayL
  rw [h]
  by_cases hz : z < size <;> simp [hz]
theorem wayL_two {i : Ins} {a x y size : Int} (h : wayRaw i a = [x, y]) (hxy : x < y) : wayL i a size = if y < size then [x, y] else if x < size then [x] else [] := by
  unfold wayL
  rw [h]
  by_cases hy : y < size
  · simp [hy, show x < size by omega]
  · by_cases hx : x < size <;> simp [hx, hy]

end Go.Proofs.Ytjlhfmedaandeaa
