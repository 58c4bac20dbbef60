import Derived.Test.YtlicndonhmcmmaaData7
namespace Go.Proofs.Ytlicndonhmcmmaa
open Go.RowKit Go.ChangeShapes Go.WideShapes
set_option linter.unusedVariables false

/-- The codes that are known: code, name, class. -/
structure Ent where
  code : Int
  name : ByteArray
  cls : Int
def Ent.cells (e : Ent) : Array Value := #[.int .u16 e.code, .string e.name, .int .u8 e.cls]
def Ent.val (e : Ent) : Value := .agg e.cells
def ents : List Ent := [⟨32, ⟨#[108, 100, 97, 98, 115]⟩, 1⟩, ⟨128, ⟨#[108, 100, 108, 101, 110]⟩, 1⟩, ⟨0, ⟨#[108, 100, 105]⟩, 1⟩, ⟨96, ⟨#[108, 100, 109]⟩, 1⟩, ⟨129, ⟨#[108, 100, 120, 108, 101, 110]⟩, 1⟩, ⟨1, ⟨#[108, 100, 120, 105]⟩, 1⟩, ⟨97, ⟨#[108, 100, 120, 109]⟩, 1⟩, ⟨2, ⟨#[115, 116]⟩, 2⟩, ⟨3, ⟨#[115, 116, 120]⟩, 2⟩, ⟨4, ⟨#[97, 100, 100]⟩, 3⟩, ⟨20, ⟨#[115, 117, 98]⟩, 3⟩, ⟨36, ⟨#[109, 117, 108]⟩, 3⟩, ⟨52, ⟨#[100, 105, 118]⟩, 3⟩, ⟨68, ⟨#[111, 114]⟩, 3⟩, ⟨84, ⟨#[97, 110, 100]⟩, 3⟩, ⟨100, ⟨#[108, 115, 104]⟩, 3⟩, ⟨116, ⟨#[114, 115, 104]⟩, 3⟩, ⟨164, ⟨#[120, 111, 114]⟩, 3⟩, ⟨12, ⟨#[97, 100, 100, 120]⟩, 3⟩, ⟨28, ⟨#[115, 117, 98, 120]⟩, 3⟩, ⟨44, ⟨#[109, 117, 108, 120]⟩, 3⟩, ⟨60, ⟨#[100, 105, 118, 120]⟩, 3⟩, ⟨76, ⟨#[111, 114, 120]⟩, 3⟩, ⟨92, ⟨#[97, 110, 100, 120]⟩, 3⟩, ⟨108, ⟨#[108, 115, 104, 120]⟩, 3⟩, ⟨124, ⟨#[114, 115, 104, 120]⟩, 3⟩, ⟨172, ⟨#[120, 111, 114, 120]⟩, 3⟩, ⟨132, ⟨#[110, 101, 103]⟩, 3⟩, ⟨5, ⟨#[106, 97]⟩, 4⟩, ⟨21, ⟨#[106, 101, 113]⟩, 4⟩, ⟨37, ⟨#[106, 103, 116]⟩, 4⟩, ⟨53, ⟨#[106, 103, 101]⟩, 4⟩, ⟨69, ⟨#[106, 115, 101, 116]⟩, 4⟩, ⟨29, ⟨#[106, 101, 113, 120]⟩, 4⟩, ⟨45, ⟨#[106, 103, 116, 120]⟩, 4⟩, ⟨61, ⟨#[106, 103, 101, 120]⟩, 4⟩, ⟨77, ⟨#[106, 115, 101, 116, 120]⟩, 4⟩, ⟨6, ⟨#[114, 101, 116]⟩, 5⟩, ⟨22, ⟨#[114, 101, 116, 97]⟩, 5⟩, ⟨7, ⟨#[116, 97, 120]⟩, 6⟩, ⟨135, ⟨#[116, 120, 97]⟩, 6⟩]
def entA : Array Value := #[.int .u16 32, .string ⟨#[108, 100, 97, 98, 115]⟩, .int .u8 1, .int .u16 128, .string ⟨#[108, 100, 108, 101, 110]⟩, .int .u8 1, .int .u16 0, .string ⟨#[108, 100, 105]⟩, .int .u8 1, .int .u16 96, .string ⟨#[108, 100, 109]⟩, .int .u8 1, .int .u16 129, .string ⟨#[108, 100, 120, 108, 101, 110]⟩, .int .u8 1, .int .u16 1, .string ⟨#[108, 100, 120, 105]⟩, .int .u8 1, .int .u16 97, .string ⟨#[108, 100, 120, 109]⟩, .int .u8 1, .int .u16 2, .string ⟨#[115, 116]⟩, .int .u8 2, .int .u16 3, .string ⟨#[115, 116, 120]⟩, .int .u8 2, .int .u16 4, .string ⟨#[97, 100, 100]⟩, .int .u8 3, .int .u16 20, .string ⟨#[115, 117, 98]⟩, .int .u8 3, .int .u16 36, .string ⟨#[109, 117, 108]⟩, .int .u8 3, .int .u16 52, .string ⟨#[100, 105, 118]⟩, .int .u8 3, .int .u16 68, .string ⟨#[111, 114]⟩, .int .u8 3, .int .u16 84, .string ⟨#[97, 110, 100]⟩, .int .u8 3, .int .u16 100, .string ⟨#[108, 115, 104]⟩, .int .u8 3, .int .u16 116, .string ⟨#[114, 115, 104]⟩, .int .u8 3, .int .u16 164, .string ⟨#[120, 111, 114]⟩, .int .u8 3, .int .u16 12, .string ⟨#[97, 100, 100, 120]⟩, .int .u8 3, .int .u16 28, .string ⟨#[115, 117, 98, 120]⟩, .int .u8 3, .int .u16 44, .string ⟨#[109, 117, 108, 120]⟩, .int .u8 3, .int .u16 60, .string ⟨#[100, 105, 118, 120]⟩, .int .u8 3, .int .u16 76, .string ⟨#[111, 114, 120]⟩, .int .u8 3, .int .u16 92, .string ⟨#[97, 110, 100, 120]⟩, .int .u8 3, .int .u16 108, .string ⟨#[108, 115, 104, 120]⟩, .int .u8 3, .int .u16 124, .string ⟨#[114, 115, 104, 120]⟩, .int .u8 3, .int .u16 172, .string ⟨#[120, 111, 114, 120]⟩, .int .u8 3, .int .u16 132, .string ⟨#[110, 101, 103]⟩, .int .u8 3, .int .u16 5, .string ⟨#[106, 97]⟩, .int .u8 4, .int .u16 21, .string ⟨#[106, 101, 113]⟩, .int .u8 4, .int .u16 37, .string ⟨#[106, 103, 116]⟩, .int .u8 4, .int .u16 53, .string ⟨#[106, 103, 101]⟩, .int .u8 4, .int .u16 69, .string ⟨#[106, 115, 101, 116]⟩, .int .u8 4, .int .u16 29, .string ⟨#[106, 101, 113, 120]⟩, .int .u8 4, .int .u16 45, .string ⟨#[106, 103, 116, 120]⟩, .int .u8 4, .int .u16 61, .string ⟨#[106, 103, 101, 120]⟩, .int .u8 4, .int .u16 77, .string ⟨#[106, 115, 101, 116, 120]⟩, .int .u8 4, .int .u16 6, .string ⟨#[114, 101, 116]⟩, .int .u8 5, .int .u16 22, .string ⟨#[114, 101, 116, 97]⟩, .int .u8 5, .int .u16 7, .string ⟨#[116, 97, 120]⟩, .int .u8 6, .int .u16 135, .string ⟨#[116, 120, 97]⟩, .int .u8 6]
def entV : Value := .agg entA
def noEnt : Ent := ⟨0, ⟨#[]⟩, 0⟩

theorem wpList_build_lit {P : Program} {ops : Array Oper} {rest : List Oper} {o : Oper} {a : Act} {w : World} {Q : Exit → Act → World → Prop} (hg : o.guard = none) (t : TypeId) (parts : Array (Nat × Operand)) (ho : o.op = .build t parts)
    (cells : Array Value) (hb : P.built t (parts.map fun (i, x) => (i, a.eval x)).toList = some cells)
    (h : wpList P ops Q rest (a.put o.dst (.agg cells)) w) : wpList P ops Q (o :: rest) a w := by
  refine wpList_plain hg fun _ hK => ?_
  unfold Oper.wp execOp
  simp only [ho, Sem.run_bind, run_build w t _ _ hb, Result.andThen_ok]
  exact hK _ _ h

theorem ent_index : ∀ (k : Nat) (hk : k < 41) (W : World), (Instr.index 125 entV (.int .i64 k)).run Try.prog W = .ok (ents.getD k noEnt).val W
  | 0, _, _ => by kernel_rfl
  | 1, _, _ => by kernel_rfl
  | 2, _, _ => by kernel_rfl
  | 3, _, _ => by kernel_rfl
  | 4, _, _ => by kernel_rfl
  | 5, _, _ => by kernel_rfl
  | 6, _, _ => by kernel_rfl
  | 7, _, _ => by kernel_rfl
  | 8, _, _ => by kernel_rfl
  | 9, _, _ => by kernel_rfl
  | 10, _, _ => by kernel_rfl
  | 11, _, _ => by kernel_rfl
  | 12, _, _ => by kernel_rfl
  | 13, _, _ => by kernel_rfl
  | 14, _, _ => by kernel_rfl
  | 15, _, _ => by kernel_rfl
  | 16, _, _ => by kernel_rfl
  | 17, _, _ => by kernel_rfl
  | 18, _, _ => by kernel_rfl
  | 19, _, _ => by kernel_rfl
  | 20, _, _ => by kernel_rfl
  | 21, _, _ => by kernel_rfl
  | 22, _, _ => by kernel_rfl
  | 23, _, _ => by kernel_rfl
  | 24, _, _ => by kernel_rfl
  | 25, _, _ => by kernel_rfl
  | 26, _, _ => by kernel_rfl
  | 27, _, _ => by kernel_rfl
  | 28, _, _ => by kernel_rfl
  | 29, _, _ => by kernel_rfl
  | 30, _, _ => by kernel_rfl
  | 31, _, _ => by kernel_rfl
  | 32, _, _ => by kernel_rfl
  | 33, _, _ => by kernel_rfl
  | 34, _, _ => by kernel_rfl
  | 35, _, _ => by kernel_rfl
  | 36, _, _ => by kernel_rfl
  | 37, _, _ => by kernel_rfl
  | 38, _, _ => by kernel_rfl
  | 39, _, _ => by kernel_rfl
  | 40, _, _ => by kernel_rfl
  | n + 41, h, _ => absurd h (by omega)

set_option maxHeartbeats 4000000 in
set_option maxRecDepth 100000 in
theorem entries_any (W : World) :
    Calls Try.prog 88 #[] W fun e w' => e = .returned entV ∧ Ext W w' := by
  have hall : ∀ v ∈ entA.toList, v.oneCell' = true := by
    have : entA.toList.all (·.oneCell') = true := by kernel_rfl
    exact List.all_eq_true.1 this
  go_enter Try.func88, Try.ntmps88
  have hal : ∀ x : Array Value, Blk (W.alloc (.cells x 125)) W.heap.size 125 x := fun x => Blk.new _ _ _
  go_wp2_with (first | (refine wpList_build_lit rfl 125 _ rfl entA (by kernel_rfl) ?_) | (refine wpList_store_all rfl 125 (.tmp 0) (.tmp 42) rfl W.heap.size 125 Try.zeroCells125 entA rfl rfl (hal _) (by kernel_rfl) (by kernel_rfl) hall ?_; intro wz Bz hgz))
  exact bodyPost_ret (results_blk1 rfl _ _ _ _ _ _ rfl Bz Try.underlying125 rfl (by kernel_rfl)) rfl ⟨rfl, ((Ext.refl W).alloc _).grown hgz (fun k e => by cases e; exact Nat.le_refl _)⟩
end Go.Proofs.Ytlicndonhmcmmaa
