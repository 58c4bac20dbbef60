import Derived.Test.YtjlhfmedaandeaaData
namespace Go.Proofs.Ytjlhfmedaandeaa
open Go.RowKit Go.ChangeShapes Go.WideShapes
set_option linter.unusedVariables false

/-- The codes that are known: code, name, class. -/
structure Ent where
  code : Int
  name : ByteArray
  cls : Int
def Ent.cells (e : Ent) : Array Value := #[.int .u16 e.code, .string e.name, .int .u8 e.cls]
def Ent.val (e : Ent) : Value := .agg e.cells
def ents : List Ent := [⟨32, ⟨#[108, 100, 97, 98, 115]⟩, 1⟩, ⟨128, ⟨#[108, 100, 108, 101, 110]⟩, 1⟩, ⟨0, ⟨#[108, 100, 105]⟩, 1⟩, ⟨96, ⟨#[108, 100, 109]⟩, 1⟩, ⟨129, ⟨#[108, 100, 120, 108, 101, 110]⟩, 1⟩, ⟨1, ⟨#[108, 100, 120, 105]⟩, 1⟩, ⟨97, ⟨#[108, 100, 120, 109]⟩, 1⟩, ⟨2, ⟨#[115, 116]⟩, 2⟩, ⟨3, ⟨#[115, 116, 120]⟩, 2⟩, ⟨4, ⟨#[97, 100, 100]⟩, 3⟩, ⟨20, ⟨#[115, 117, 98]⟩, 3⟩, ⟨36, ⟨#[109, 117, 108]⟩, 3⟩, ⟨52, ⟨#[100, 105, 118]⟩, 3⟩, ⟨68, ⟨#[111, 114]⟩, 3⟩, ⟨84, ⟨#[97, 110, 100]⟩, 3⟩, ⟨100, ⟨#[108, 115, 104]⟩, 3⟩, ⟨116, ⟨#[114, 115, 104]⟩, 3⟩, ⟨164, ⟨#[120, 111, 114]⟩, 3⟩, ⟨12, ⟨#[97, 100, 100, 120]⟩, 3⟩, ⟨28, ⟨#[115, 117, 98, 120]⟩, 3⟩, ⟨44, ⟨#[109, 117, 108, 120]⟩, 3⟩, ⟨60, ⟨#[100, 105, 118, 120]⟩, 3⟩, ⟨76, ⟨#[111, 114, 120]⟩, 3⟩, ⟨92, ⟨#[97, 110, 100, 120]⟩, 3⟩, ⟨108, ⟨#[108, 115, 104, 120]⟩, 3⟩, ⟨124, ⟨#[114, 115, 104, 120]⟩, 3⟩, ⟨172, ⟨#[120, 111, 114, 120]⟩, 3⟩, ⟨132, ⟨#[110, 101, 103]⟩, 3⟩, ⟨5, ⟨#[106, 97]⟩, 4⟩, ⟨21, ⟨#[106, 101, 113]⟩, 4⟩, ⟨37, ⟨#[106, 103, 116]⟩, 4⟩, ⟨53, ⟨#[106, 103, 101]⟩, 4⟩, ⟨69, ⟨#[106, 115, 101, 116]⟩, 4⟩, ⟨29, ⟨#[106, 101, 113, 120]⟩, 4⟩, ⟨45, ⟨#[106, 103, 116, 120]⟩, 4⟩, ⟨61, ⟨#[106, 103, 101, 120]⟩, 4⟩, ⟨77, ⟨#[106, 115, 101, 116, 120]⟩, 4⟩, ⟨6, ⟨#[114, 101, 116]⟩, 5⟩, ⟨22, ⟨#[114, 101, 116, 97]⟩, 5⟩, ⟨7, ⟨#[116, 97, 120]⟩, 6⟩, ⟨135, ⟨#[116, 120, 97]⟩, 6⟩]
def entA : Array Value := #[.int .u16 32, .string ⟨#[108, 100, 97, 98, 115]⟩, .int .u8 1, .int .u16 128, .string ⟨#[108, 100, 108, 101, 110]⟩, .int .u8 1, .int .u16 0, .string ⟨#[108, 100, 105]⟩, .int .u8 1, .int .u16 96, .string ⟨#[108, 100, 109]⟩, .int .u8 1, .int .u16 129, .string ⟨#[108, 100, 120, 108, 101, 110]⟩, .int .u8 1, .int .u16 1, .string ⟨#[108, 100, 120, 105]⟩, .int .u8 1, .int .u16 97, .string ⟨#[108, 100, 120, 109]⟩, .int .u8 1, .int .u16 2, .string ⟨#[115, 116]⟩, .int .u8 2, .int .u16 3, .string ⟨#[115, 116, 120]⟩, .int .u8 2, .int .u16 4, .string ⟨#[97, 100, 100]⟩, .int .u8 3, .int .u16 20, .string ⟨#[115, 117, 98]⟩, .int .u8 3, .int .u16 36, .string ⟨#[109, 117, 108]⟩, .int .u8 3, .int .u16 52, .string ⟨#[100, 105, 118]⟩, .int .u8 3, .int .u16 68, .string ⟨#[111, 114]⟩, .int .u8 3, .int .u16 84, .string ⟨#[97, 110, 100]⟩, .int .u8 3, .int .u16 100, .string ⟨#[108, 115, 104]⟩, .int .u8 3, .int .u16 116, .string ⟨#[114, 115, 104]⟩, .int .u8 3, .int .u16 164, .string ⟨#[120, 111, 114]⟩, .int .u8 3, .int .u16 12, .string ⟨#[97, 100, 100, 120]⟩, .int .u8 3, .int .u16 28, .string ⟨#[115, 117, 98, 120]⟩, .int .u8 3, .int .u16 44, .string ⟨#[109, 117, 108, 120]⟩, .int .u8 3, .int .u16 60, .string ⟨#[100, 105, 118, 120]⟩, .int .u8 3, .int .u16 76, .string ⟨#[111, 114, 120]⟩, .int .u8 3, .int .u16 92, .string ⟨#[97, 110, 100, 120]⟩, .int .u8 3, .int .u16 108, .string ⟨#[108, 115, 104, 120]⟩, .int .u8 3, .int .u16 124, .string ⟨#[114, 115, 104, 120]⟩, .int .u8 3, .int .u16 172, .string ⟨#[120, 111, 114, 120]⟩, .int .u8 3, .int .u16 132, .string ⟨#[110, 101, 103]⟩, .int .u8 3, .int .u16 5, .string ⟨#[106, 97]⟩, .int .u8 4, .int .u16 21, .string ⟨#[106, 101, 113]⟩, .int .u8 4, .int .u16 37, .string ⟨#[106, 103, 116]⟩, .int .u8 4, .int .u16 53, .string ⟨#[106, 103, 101]⟩, .int .u8 4, .int .u16 69, .string ⟨#[106, 115, 101, 116]⟩, .int .u8 4, .int .u16 29, .string ⟨#[106, 101, 113, 120]⟩, .int .u8 4, .int .u16 45, .string ⟨#[106, 103, 116, 120]⟩, .int .u8 4, .int .u16 61, .string ⟨#[106, 103, 101, 120]⟩, .int .u8 4, .int .u16 77, .string ⟨#[106, 115, 101, 116, 120]⟩, .int .u8 4, .int .u16 6, .string ⟨#[114, 101, 116]⟩, .int .u8 5, .int .u16 22, .string ⟨#[114, 101, 116, 97]⟩, .int .u8 5, .int .u16 7, .string ⟨#[116, 97, 120]⟩, .int .u8 6, .int .u16 135, .string ⟨#[116, 120, 97]⟩, .int .u8 6]
def entV : Value := .agg entA
def noEnt : Ent := ⟨0, ⟨#[]⟩, 0⟩

theorem wpList_build_lit {P : Program} {ops : Array Oper} {rest : List Oper} {o : Oper} {a : Act} {w : World} {Q : Exit → Act → World → Prop} (hg : o.guard = none) (t : TypeId) (parts : Array (Nat × Operand)) (ho : o.op = .build t parts)
    (cells : Array Value) (hb : P.built t (parts.map fun (i, x) => (i, a.eval x)).toList = some cells)
    (h : wpList P ops Q rest (a.put o.dst (.agg cells)) w) : wpList P ops Q (o :: rest) a w := by
  refine wpList_plain hg fun _ hK => ?_
  unfold Oper.wp execOp
  simp only [ho, Sem.run_bind, run_build w t _ _ hb, Result.andThen_ok]
  exact hK _ _ h

theorem ent_index : ∀ (k : Nat) (hk : k < 41) (W : World), (Instr.index 113 entV (.int .i64 k)).run Try.prog W = .ok (ents.getD k noEnt).val W
  | 0, _, _ => by kernel_rfl
  | 1, _, _ => by kernel_rfl
  | 2, _, _ => by kernel_rfl
  | 3, _, _ => by kernel_rfl
  | 4, _, _ => by kernel_rfl
  | 5, _, _ => by kernel_rfl
  | 6, _, _ => by kernel_rfl
  | 7, _, _ => by kernel_rfl
  | 8, _, _ => by kernel_rfl
  | 9, _, _ => by kernel_rfl
  | 10, _, _ => by kernel_rfl
  | 11, _, _ => by kernel_rfl
  | 12, _, _ => by kernel_rfl
  | 13, _, _ => by kernel_rfl
  | 14, _, _ => by kernel_rfl
  | 15, _, _ => by kernel_rfl
  | 16, _, _ => by kernel_rfl
  | 17, _, _ => by kernel_rfl
  | 18, _, _ => by kernel_rfl
  | 19, _, _ => by kernel_rfl
  | 20, _, _ => by kernel_rfl
  | 21, _, _ => by kernel_rfl
  | 22, _, _ => by kernel_rfl
  | 23, _, _ => by kernel_rfl
  | 24, _, _ => by kernel_rfl
  | 25, _, _ => by kernel_rfl
  | 26, _, _ => by kernel_rfl
  | 27, _, _ => by kernel_rfl
  | 28, _, _ => by kernel_rfl
  | 29, _, _ => by kernel_rfl
  | 30, _, _ => by kernel_rfl
  | 31, _, _ => by kernel_rfl
  | 32, _, _ => by kernel_rfl
  | 33, _, _ => by kernel_rfl
  | 34, _, _ => by kernel_rfl
  | 35, _, _ => by kernel_rfl
  | 36, _, _ => by kernel_rfl
  | 37, _, _ => by kernel_rfl
  | 38, _, _ => by kernel_rfl
  | 39, _, _ => by kernel_rfl
  | 40, _, _ => by kernel_rfl
  | n + 41, h, _ => absurd h (by omega)

set_option maxHeartbeats 4000000 in
set_option maxRecDepth 100000 in
theorem entries_any (W : World) :
    Calls Try.prog 83 #[] W fun e w' => e = .returned entV ∧ Ext W w' := by
  have hall : ∀ v ∈ entA.toList, v.oneCell' = true := by
    have : entA.toList.all (·.oneCell') = true := by kernel_rfl
    exact List.all_eq_true.1 this
  go_enter Try.func83, Try.ntmps83
  have hal : ∀ x : Array Value, Blk (W.alloc (.cells x 113)) W.heap.size 113 x := fun x => Blk.new _ _ _
  go_wp2_with (first | (refine wpList_build_lit rfl 113 _ rfl entA (by kernel_rfl) ?_) | (refine wpList_store_all rfl 113 (.tmp 0) (.tmp 42) rfl W.heap.size 113 Try.zeroCells113 entA rfl rfl (hal _) (by kernel_rfl) (by kernel_rfl) hall ?_; intro wz Bz hgz))
  exact bodyPost_ret (results_blk1 rfl _ _ _ _ _ _ rfl Bz Try.underlying113 rfl (by kernel_rfl)) rfl ⟨rfl, ((Ext.refl W).alloc _).grown hgz (fun k e => by cases e; exact Nat.le_refl _)⟩
end Go.Proofs.Ytjlhfmedaandeaa

namespace Go.Proofs.Ytjlhfmedaandeaa
open Go.RowKit Go.ChangeShapes Go.WideShapes
set_option linter.unusedVariables false

/-- The first entry of which p holds. -/
def findE (p : Ent → Bool) : Ent × Bool := match ents.find? p with
  | some e => (e, true)
  | none => (noEnt, false)
theorem findE_at {p : Ent → Bool} {k : Nat} (hk : k < 41) (hno : ∀ j, j < k → p (ents.getD j noEnt) = false) (h : p (ents.getD k noEnt) = true) : findE p = (ents.getD k noEnt, true) := by
  have hl : ents.length = 41 := rfl
  have : ents.find? p = some (ents.getD k noEnt) := by
    rw [List.find?_eq_some_iff_getElem]
    refine ⟨h, k, by omega, ?_, fun j hj => ?_⟩
    · rw [List.getD_eq_getElem?_getD, List.getElem?_eq_getElem (by omega)]; rfl
    · have := hno j hj
      rw [List.getD_eq_getElem?_getD, List.getElem?_eq_getElem (show j < ents.length by omega)] at this
      simpa using this
  unfold findE
  rw [this]
theorem findE_no {p : Ent → Bool} (hno : ∀ j, j < 41 → p (ents.getD j noEnt) = false) : findE p = (noEnt, false) := by
  have hl : ents.length = 41 := rfl
  have : ents.find? p = none := by
    rw [List.find?_eq_none]
    intro x hx
    obtain ⟨j, hj, rfl⟩ := List.getElem_of_mem hx
    have := hno j (by omega)
    rw [List.getD_eq_getElem?_getD, List.getElem?_eq_getElem hj] at this
    simpa using this
  unfold findE
  rw [this]

theorem by1 (c q : Int) (s : ByteArray) (g : Nat) (a : Int) (W : World) (hc : W.cell? ⟨g, 0, none⟩ = some (.int .u16 a)) :
    Calls Try.prog 73 #[.agg #[.int .u16 c, .string s, .int .u8 q], .pointer (some ⟨g, 0, none⟩)] W fun e w' => e = .returned (.bool (c == a)) ∧ Ext W w' := by
  have hlt : g < W.heap.size := block_lt_of_cell hc
  have hne : g ≠ W.heap.size := Nat.ne_of_lt hlt
  have hc2 : ∀ o, (W.alloc o).cell? ⟨g, 0, none⟩ = some (.int .u16 a) := fun o => ((Ext.refl W).alloc o).cell hc
  go_enter Try.func73, Try.ntmps73
  go_wp2
  go_ret
  first | exact ⟨rfl, (Ext.refl W).alloc _⟩ | exact ⟨rfl, Ext.refl W⟩

set_option maxRecDepth 100000 in
theorem find_code (g : Nat) (a : Int) (W : World) (hc : W.cell? ⟨g, 0, none⟩ = some (.int .u16 a)) :
    Calls Try.prog 72 #[.func (.func 73) #[] #[.pointer (some ⟨g, 0, none⟩)]] W fun e w' => e = .returned (.tuple #[(findE fun e => e.code == a).1.val, .bool (findE fun e => e.code == a).2]) ∧ Ext W w' := by
  have HI := Lib.hid (fun (k : Nat) (hk : k < 41) (W : World) => ent_index k hk W)
  have HE := Lib.hid (fun W : World => entries_any W)
  have HF := Lib.hid (fun (k : Nat) (hk : k < 41) => findE_at (p := fun e => e.code == a) hk)
  have HN := Lib.hid (findE_no (p := fun e => e.code == a))
  generalize entV = V at *
  generalize findE (fun e => e.code == a) = R at *
  have hgs := block_lt_of_cell hc
  go_enter Try.func72, Try.ntmps72
  go_wp2_with fail
  have hx0 := (Ext.refl W).alloc (.cells #[.int .u16 0, .string ⟨#[]⟩, .int .u8 0] 81)
  have B0 := Blk.new W 81 #[.int .u16 0, .string ⟨#[]⟩, .int .u8 0]
  refine (HE.out _).mono ?_
  rintro e w1 ⟨rfl, hx1⟩
  replace hx0 := hx0.trans hx1
  replace B0 := B0.ext hx1
  clear hx1
  go_wp2_with fail
  go_loopw [7] (fun i wr => ∃ k : Nat, k ≤ 41 ∧ i = .int .i64 k ∧ (∀ j, j < k → ((ents.getD j noEnt).code == a) = false) ∧ Ext W wr ∧ Blk wr W.heap.size 81 #[.int .u16 0, .string ⟨#[]⟩, .int .u8 0]) (fun i _ => 41 - (intOf i).toNat)
  case atStart => exact ⟨0, by decide, rfl, fun j hj => absurd hj (by omega), hx0, B0⟩
  case round =>
    clear hx0 B0
    obtain ⟨k, hk, rfl, hno, hx, B0⟩ := hrel
    by_cases hlt : k < 41
    · have hidx : ∀ W, (Instr.index 113 V (.int .i64 k)).run Try.prog W = .ok (.agg #[.int .u16 (ents.getD k noEnt).code, .string (ents.getD k noEnt).name, .int .u8 (ents.getD k noEnt).cls]) W := fun W => HI.out k hlt W
      have hf := Lib.hid (HF.out k hlt hno)
      have hno' : ∀ (h : ((ents.getD k noEnt).code == a) = false) j, j < k + 1 → ((ents.getD j noEnt).code == a) = false := fun h j hj => by
        rcases Nat.lt_succ_iff_lt_or_eq.1 hj with h1 | rfl
        · exact hno j h1
        · exact h
      generalize ents.getD k noEnt = E at *
      obtain ⟨c, s, q⟩ := E
      have hc2 := hx.cell hc
      dsimp only at hidx hf hno'
      by_cases h : (c == a) = true
      · have hR := hf.out h
        subst hR
        clear hno hno' hf HF HN HI HE
        go_wp2_with fail
        refine (by1 c q s g a _ (((Ext.refl wr).alloc _).cell hc2)).mono ?_
        rintro e w2 ⟨rfl, hx2⟩
        have hx3 := (hx.alloc (.cells #[.int .u16 c, .string s, .int .u8 q] 81)).trans hx2
        have B2 := (Blk.new wr 81 #[.int .u16 c, .string s, .int .u8 q]).ext hx2
        replace B0 := (B0.alloc (.cells #[.int .u16 c, .string s, .int .u8 q] 81)).ext hx2
        rw [h]
        go_wp2_with (first | (refine wpList_load_blk rfl 81 (.tmp 5) rfl _ _ _ _ rfl B2 Try.underlying81 rfl (by kernel_rfl) ?_) | (refine wpList_store_all rfl 81 (.tmp 2) (.tmp 13) rfl _ _ _ _ rfl rfl B0 rfl (by kernel_rfl) (by simp [Value.oneCell']) ?_; intro wz Bz hgz))
        exact bodyPost_ret (results_blk2 rfl _ _ _ _ _ _ rfl Bz Try.underlying81 rfl (by kernel_rfl)) rfl ⟨rfl, hx3.grown hgz (fun k e => by cases e; exact Nat.le_refl _)⟩
      · have h : (c == a) = false := by simpa using h
        replace hno' := hno' h
        clear hno hf
        go_wp2_with fail
        refine (by1 c q s g a _ (((Ext.refl wr).alloc _).cell hc2)).mono ?_
        rintro e w2 ⟨rfl, hx2⟩
        have hx3 := (hx.alloc (.cells #[.int .u16 c, .string s, .int .u8 q] 81)).trans hx2
        replace B0 := (B0.alloc (.cells #[.int .u16 c, .string s, .int .u8 q] 81)).ext hx2
        rw [h]
        go_wp2
        go_roundw
        case rel => exact ⟨k + 1, by omega, by go_num, hno', hx3, B0⟩
        case measure => simp [intOf]; omega
    · obtain rfl : k = 41 := by omega
      have hR := HN.out hno
      subst hR
      clear hno HF HN HI HE
      go_wp2_with (refine wpList_store_all rfl 81 (.tmp 2) (.tmp 15) rfl _ _ _ _ rfl rfl B0 rfl (by kernel_rfl) (by simp [Value.oneCell']) ?_; intro wz Bz hgz)
      exact bodyPost_ret (results_blk2 rfl _ _ _ _ _ _ rfl Bz Try.underlying81 rfl (by kernel_rfl)) rfl ⟨rfl, hx.grown hgz (fun k e => by cases e; exact Nat.le_refl _)⟩
end Go.Proofs.Ytjlhfmedaandeaa

namespace Go.Proofs.Ytjlhfmedaandeaa
open Go.RowKit Go.ChangeShapes Go.WideShapes
set_option linter.unusedVariables false

set_option maxRecDepth 100000 in
theorem by_any (a : Int) (W : World) :
    Calls Try.prog 57 #[.int .u16 a] W fun e w' => e = .returned (.tuple #[(findE fun e => e.code == a).1.val, .bool (findE fun e => e.code == a).2]) ∧ Ext W w' := by
  have H := Lib.hid (fun (g : Nat) (W : World) (hc : W.cell? ⟨g, 0, none⟩ = some (.int .u16 a)) => find_code g a W hc)
  generalize findE (fun e => e.code == a) = R at *
  obtain ⟨⟨c, s, q⟩, ok⟩ := R
  go_enter Try.func57, Try.ntmps57
  go_wp2_with fail
  have hx0 := ((Ext.refl W).alloc (.cells #[.int .u16 a] 29)).alloc (.cells #[.int .u16 0, .string ⟨#[]⟩, .int .u8 0] 81)
  have B0 : Blk ((W.alloc (.cells #[.int .u16 a] 29)).alloc (.cells #[.int .u16 0, .string ⟨#[]⟩, .int .u8 0] 81)) (W.heap.size + 1) 81 #[.int .u16 0, .string ⟨#[]⟩, .int .u8 0] := Blk.new_ (by simp)
  have B1 := (Blk.new W 29 #[.int .u16 a]).alloc (.cells #[.int .u16 0, .string ⟨#[]⟩, .int .u8 0] 81)
  refine (H.out W.heap.size _ (by rw [B1.cell]; rfl)).mono ?_
  rintro e w2 ⟨rfl, hx2⟩
  replace B0 := B0.ext hx2
  go_wp2_with (refine wpList_store_all rfl 81 (.tmp 2) (.tmp _) rfl _ _ _ _ rfl rfl B0 rfl (by kernel_rfl) (by simp [Value.oneCell', Ent.cells]) ?_; intro wz Bz hgz)
  exact bodyPost_ret (results_blk2 rfl _ _ _ _ _ _ rfl Bz Try.underlying81 rfl (by kernel_rfl)) rfl ⟨rfl, (hx0.trans hx2).grown hgz (fun k e => by cases e; omega)⟩
end Go.Proofs.Ytjlhfmedaandeaa

namespace Go.Proofs.Ytjlhfmedaandeaa
open Go.RowKit Go.ChangeShapes Go.WideShapes
set_option linter.unusedVariables false

def byE (a : Int) : Ent × Bool := findE fun e => e.code == a
def nmE (t : ByteArray) : Ent × Bool := findE fun e => e.name.toList == t.toList

theorem known_any (a : Int) (W : World) :
    Calls Try.prog 98 #[.int .u16 a] W fun e w' => e = .returned (.bool (byE a).2) ∧ Ext W w' := by
  have H := Lib.hid (by_any a W)
  rw [show (findE fun e => e.code == a) = byE a from rfl] at H
  generalize byE a = R at *
  obtain ⟨⟨c, s, q⟩, ok⟩ := R
  simp only [Ent.val, Ent.cells] at H
  go_enter Try.func98, Try.ntmps98
  go_wp2_with fail
  refine H.out.mono ?_
  rintro e w2 ⟨rfl, hx2⟩
  go_wp2
  go_ret
  exact ⟨rfl, hx2.alloc _⟩
theorem of_any (a : Int) (W : World) :
    Calls Try.prog 35 #[.int .u16 a] W fun e w' => e = .returned (.int .u8 (byE a).1.cls) ∧ Ext W w' := by
  have H := Lib.hid (by_any a W)
  rw [show (findE fun e => e.code == a) = byE a from rfl] at H
  generalize byE a = R at *
  obtain ⟨⟨c, s, q⟩, ok⟩ := R
  simp only [Ent.val, Ent.cells] at H
  go_enter Try.func35, Try.ntmps35
  go_wp2_with fail
  refine H.out.mono ?_
  rintro e w2 ⟨rfl, hx2⟩
  go_wp2
  go_ret
  exact ⟨rfl, hx2.alloc _⟩
def takesX (a : Int) : Bool := (byE a).2 && ((byE a).1.cls == 3 || (byE a).1.cls == 4) && (bits .and .u16 a 8 != 0)
theorem withX_any (a : Int) (W : World) :
    Calls Try.prog 108 #[.int .u16 a] W fun e w' => e = .returned (.bool (takesX a)) ∧ Ext W w' := by
  have H := Lib.hid (by_any a W)
  rw [show (findE fun e => e.code == a) = byE a from rfl] at H
  unfold takesX
  generalize byE a = R at *
  obtain ⟨⟨c, s, q⟩, ok⟩ := R
  simp only [Ent.val, Ent.cells] at H
  generalize hb : bits .and .u16 a 8 = b at *
  go_enter Try.func108, Try.ntmps108
  go_wp2_with fail
  refine H.out.mono ?_
  rintro e w2 ⟨rfl, hx2⟩
  cases ok
  · go_wp2
    go_ret
    exact ⟨rfl, hx2.alloc _⟩
  · cases h1 : (q == 3)
    · cases h2 : (q == 4)
      · go_wp2
        go_ret
        exact ⟨ret_bool (by rw [h1, h2]; rfl), hx2.alloc _⟩
      · go_wp2
        go_ret
        exact ⟨ret_bool (by rw [h1, h2]; rfl), hx2.alloc _⟩
    · go_wp2
      go_ret
      exact ⟨ret_bool (by rw [h1]; rfl), hx2.alloc _⟩
end Go.Proofs.Ytjlhfmedaandeaa
