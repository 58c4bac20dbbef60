import Derived.Test.YtjlhfmedaandeaaInsnA
import Derived.Great.BuildSlice
namespace Go.Proofs.Ytjlhfmedaandeaa
open Go.RowKit Go.ChangeShapes Go.WideShapes
set_option linter.unusedVariables false

/-- The document's list. -/
def ones : List Ent := [⟨32, ⟨#[108, 100, 97, 98, 115]⟩, 1⟩, ⟨128, ⟨#[108, 100, 108, 101, 110]⟩, 1⟩, ⟨0, ⟨#[108, 100, 105]⟩, 1⟩, ⟨96, ⟨#[108, 100, 109]⟩, 1⟩, ⟨129, ⟨#[108, 100, 120, 108, 101, 110]⟩, 1⟩, ⟨1, ⟨#[108, 100, 120, 105]⟩, 1⟩, ⟨97, ⟨#[108, 100, 120, 109]⟩, 1⟩, ⟨2, ⟨#[115, 116]⟩, 2⟩, ⟨3, ⟨#[115, 116, 120]⟩, 2⟩, ⟨132, ⟨#[110, 101, 103]⟩, 3⟩, ⟨5, ⟨#[106, 97]⟩, 4⟩, ⟨6, ⟨#[114, 101, 116]⟩, 5⟩, ⟨22, ⟨#[114, 101, 116, 97]⟩, 5⟩, ⟨7, ⟨#[116, 97, 120]⟩, 6⟩, ⟨135, ⟨#[116, 120, 97]⟩, 6⟩, ⟨4, ⟨#[97, 100, 100]⟩, 3⟩, ⟨12, ⟨#[97, 100, 100, 120]⟩, 3⟩, ⟨20, ⟨#[115, 117, 98]⟩, 3⟩, ⟨28, ⟨#[115, 117, 98, 120]⟩, 3⟩, ⟨36, ⟨#[109, 117, 108]⟩, 3⟩, ⟨44, ⟨#[109, 117, 108, 120]⟩, 3⟩, ⟨52, ⟨#[100, 105, 118]⟩, 3⟩, ⟨60, ⟨#[100, 105, 118, 120]⟩, 3⟩, ⟨68, ⟨#[111, 114]⟩, 3⟩, ⟨76, ⟨#[111, 114, 120]⟩, 3⟩, ⟨84, ⟨#[97, 110, 100]⟩, 3⟩, ⟨92, ⟨#[97, 110, 100, 120]⟩, 3⟩, ⟨100, ⟨#[108, 115, 104]⟩, 3⟩, ⟨108, ⟨#[108, 115, 104, 120]⟩, 3⟩, ⟨116, ⟨#[114, 115, 104]⟩, 3⟩, ⟨124, ⟨#[114, 115, 104, 120]⟩, 3⟩, ⟨164, ⟨#[120, 111, 114]⟩, 3⟩, ⟨172, ⟨#[120, 111, 114, 120]⟩, 3⟩, ⟨21, ⟨#[106, 101, 113]⟩, 4⟩, ⟨29, ⟨#[106, 101, 113, 120]⟩, 4⟩, ⟨37, ⟨#[106, 103, 116]⟩, 4⟩, ⟨45, ⟨#[106, 103, 116, 120]⟩, 4⟩, ⟨53, ⟨#[106, 103, 101]⟩, 4⟩, ⟨61, ⟨#[106, 103, 101, 120]⟩, 4⟩, ⟨69, ⟨#[106, 115, 101, 116]⟩, 4⟩, ⟨77, ⟨#[106, 115, 101, 116, 120]⟩, 4⟩]
def onesC : List Value := [.int .u16 32, .string ⟨#[108, 100, 97, 98, 115]⟩, .int .u8 1, .int .u16 128, .string ⟨#[108, 100, 108, 101, 110]⟩, .int .u8 1, .int .u16 0, .string ⟨#[108, 100, 105]⟩, .int .u8 1, .int .u16 96, .string ⟨#[108, 100, 109]⟩, .int .u8 1, .int .u16 129, .string ⟨#[108, 100, 120, 108, 101, 110]⟩, .int .u8 1, .int .u16 1, .string ⟨#[108, 100, 120, 105]⟩, .int .u8 1, .int .u16 97, .string ⟨#[108, 100, 120, 109]⟩, .int .u8 1, .int .u16 2, .string ⟨#[115, 116]⟩, .int .u8 2, .int .u16 3, .string ⟨#[115, 116, 120]⟩, .int .u8 2, .int .u16 132, .string ⟨#[110, 101, 103]⟩, .int .u8 3, .int .u16 5, .string ⟨#[106, 97]⟩, .int .u8 4, .int .u16 6, .string ⟨#[114, 101, 116]⟩, .int .u8 5, .int .u16 22, .string ⟨#[114, 101, 116, 97]⟩, .int .u8 5, .int .u16 7, .string ⟨#[116, 97, 120]⟩, .int .u8 6, .int .u16 135, .string ⟨#[116, 120, 97]⟩, .int .u8 6, .int .u16 4, .string ⟨#[97, 100, 100]⟩, .int .u8 3, .int .u16 12, .string ⟨#[97, 100, 100, 120]⟩, .int .u8 3, .int .u16 20, .string ⟨#[115, 117, 98]⟩, .int .u8 3, .int .u16 28, .string ⟨#[115, 117, 98, 120]⟩, .int .u8 3, .int .u16 36, .string ⟨#[109, 117, 108]⟩, .int .u8 3, .int .u16 44, .string ⟨#[109, 117, 108, 120]⟩, .int .u8 3, .int .u16 52, .string ⟨#[100, 105, 118]⟩, .int .u8 3, .int .u16 60, .string ⟨#[100, 105, 118, 120]⟩, .int .u8 3, .int .u16 68, .string ⟨#[111, 114]⟩, .int .u8 3, .int .u16 76, .string ⟨#[111, 114, 120]⟩, .int .u8 3, .int .u16 84, .string ⟨#[97, 110, 100]⟩, .int .u8 3, .int .u16 92, .string ⟨#[97, 110, 100, 120]⟩, .int .u8 3, .int .u16 100, .string ⟨#[108, 115, 104]⟩, .int .u8 3, .int .u16 108, .string ⟨#[108, 115, 104, 120]⟩, .int .u8 3, .int .u16 116, .string ⟨#[114, 115, 104]⟩, .int .u8 3, .int .u16 124, .string ⟨#[114, 115, 104, 120]⟩, .int .u8 3, .int .u16 164, .string ⟨#[120, 111, 114]⟩, .int .u8 3, .int .u16 172, .string ⟨#[120, 111, 114, 120]⟩, .int .u8 3, .int .u16 21, .string ⟨#[106, 101, 113]⟩, .int .u8 4, .int .u16 29, .string ⟨#[106, 101, 113, 120]⟩, .int .u8 4, .int .u16 37, .string ⟨#[106, 103, 116]⟩, .int .u8 4, .int .u16 45, .string ⟨#[106, 103, 116, 120]⟩, .int .u8 4, .int .u16 53, .string ⟨#[106, 103, 101]⟩, .int .u8 4, .int .u16 61, .string ⟨#[106, 103, 101, 120]⟩, .int .u8 4, .int .u16 69, .string ⟨#[106, 115, 101, 116]⟩, .int .u8 4, .int .u16 77, .string ⟨#[106, 115, 101, 116, 120]⟩, .int .u8 4]

theorem wpList_buildSlice_lit {P : Program} {ops : Array Oper} {rest : List Oper} {o : Oper} {a : Act} {w : World} {Q : Exit → Act → World → Prop} (hg : o.guard = none) (t e : TypeId) (len : Nat) (parts : Array (Nat × Operand)) (ho : o.op = .buildSlice t len parts)
    (cells : Array Value) (z : Value) (size : Nat)
    (hu : P.underlying t = some (.slice e)) (hinfo : (P.info? e).map (fun i => (i.zero, i.size)) = some (some z, size)) (hsmall : ¬ len * size > 2 ^ 24) (hpos : ¬ len * size = 0)
    (hf : Instr.fill (fun i => some (i * size, size)) ((Array.range (len * size)).map (z.cells[· % z.cells.size]!)) (parts.map fun (i, x) => (i, a.eval x)).toList = some cells)
    (h : wpList P ops Q rest (a.put o.dst (.slice (some ⟨w.heap.size, 0, none⟩) len len)) (w.alloc (.cells cells e))) : wpList P ops Q (o :: rest) a w := by
  obtain ⟨i, hi, hzz⟩ := Option.map_eq_some_iff.1 hinfo
  simp only [Prod.mk.injEq] at hzz
  obtain ⟨hz, hs⟩ := hzz
  subst hs
  exact wpList_buildSlice hg t e len parts ho cells i z hu hi hz hsmall hpos hf h
def firstA : Array Value := #[.int .u16 32, .string ⟨#[108, 100, 97, 98, 115]⟩, .int .u8 1, .int .u16 128, .string ⟨#[108, 100, 108, 101, 110]⟩, .int .u8 1, .int .u16 0, .string ⟨#[108, 100, 105]⟩, .int .u8 1, .int .u16 96, .string ⟨#[108, 100, 109]⟩, .int .u8 1, .int .u16 129, .string ⟨#[108, 100, 120, 108, 101, 110]⟩, .int .u8 1, .int .u16 1, .string ⟨#[108, 100, 120, 105]⟩, .int .u8 1, .int .u16 97, .string ⟨#[108, 100, 120, 109]⟩, .int .u8 1, .int .u16 2, .string ⟨#[115, 116]⟩, .int .u8 2, .int .u16 3, .string ⟨#[115, 116, 120]⟩, .int .u8 2, .int .u16 132, .string ⟨#[110, 101, 103]⟩, .int .u8 3, .int .u16 5, .string ⟨#[106, 97]⟩, .int .u8 4, .int .u16 6, .string ⟨#[114, 101, 116]⟩, .int .u8 5, .int .u16 22, .string ⟨#[114, 101, 116, 97]⟩, .int .u8 5, .int .u16 7, .string ⟨#[116, 97, 120]⟩, .int .u8 6, .int .u16 135, .string ⟨#[116, 120, 97]⟩, .int .u8 6]
def numbersA : Array Value := #[.string ⟨#[97, 100, 100]⟩, .string ⟨#[115, 117, 98]⟩, .string ⟨#[109, 117, 108]⟩, .string ⟨#[100, 105, 118]⟩, .string ⟨#[111, 114]⟩, .string ⟨#[97, 110, 100]⟩, .string ⟨#[108, 115, 104]⟩, .string ⟨#[114, 115, 104]⟩]
def jumpsA : Array Value := #[.string ⟨#[106, 101, 113]⟩, .string ⟨#[106, 103, 116]⟩, .string ⟨#[106, 103, 101]⟩, .string ⟨#[106, 115, 101, 116]⟩]

theorem one3 (c q : Int) (s : ByteArray) : ∀ u ∈ [Value.int .u16 c, .string s, .int .u8 q], u.oneCell' = true := by simp [Value.oneCell']

end Go.Proofs.Ytjlhfmedaandeaa

namespace Go.Proofs.Ytjlhfmedaandeaa
open Go.RowKit Go.ChangeShapes Go.WideShapes
set_option linter.unusedVariables false

/-- The first entry of the document's list of which p holds. -/
def findO (p : Ent → Bool) : Ent × Bool := match ones.find? p with
  | some e => (e, true)
  | none => (noEnt, false)
theorem findO_at {p : Ent → Bool} {k : Nat} (hk : k < 41) (hno : ∀ j, j < k → p (ones.getD j noEnt) = false) (h : p (ones.getD k noEnt) = true) : findO p = (ones.getD k noEnt, true) := by
  have hl : ones.length = 41 := rfl
  have : ones.find? p = some (ones.getD k noEnt) := by
    rw [List.find?_eq_some_iff_getElem]
    refine ⟨h, k, by omega, ?_, fun j hj => ?_⟩
    · rw [List.getD_eq_getElem?_getD, List.getElem?_eq_getElem (by omega)]; rfl
    · have := hno j hj
      rw [List.getD_eq_getElem?_getD, List.getElem?_eq_getElem (show j < ones.length by omega)] at this
      simpa using this
  unfold findO
  rw [this]
theorem findO_no {p : Ent → Bool} (hno : ∀ j, j < 41 → p (ones.getD j noEnt) = false) : findO p = (noEnt, false) := by
  have hl : ones.length = 41 := rfl
  have : ones.find? p = none := by
    rw [List.find?_eq_none]
    intro x hx
    obtain ⟨j, hj, rfl⟩ := List.getElem_of_mem hx
    have := hno j (by omega)
    rw [List.getD_eq_getElem?_getD, List.getElem?_eq_getElem hj] at this
    simpa using this
  unfold findO
  rw [this]
theorem ones_cells : ∀ (k : Nat) (hk : k < 41), onesC[k * 3]? = some (.int .u16 (ones.getD k noEnt).code) ∧ onesC[k * 3 + 1]? = some (.string (ones.getD k noEnt).name) ∧ onesC[k * 3 + 2]? = some (.int .u8 (ones.getD k noEnt).cls)
  | 0, _ => ⟨by kernel_rfl, by kernel_rfl, by kernel_rfl⟩
  | 1, _ => ⟨by kernel_rfl, by kernel_rfl, by kernel_rfl⟩
  | 2, _ => ⟨by kernel_rfl, by kernel_rfl, by kernel_rfl⟩
  | 3, _ => ⟨by kernel_rfl, by kernel_rfl, by kernel_rfl⟩
  | 4, _ => ⟨by kernel_rfl, by kernel_rfl, by kernel_rfl⟩
  | 5, _ => ⟨by kernel_rfl, by kernel_rfl, by kernel_rfl⟩
  | 6, _ => ⟨by kernel_rfl, by kernel_rfl, by kernel_rfl⟩
  | 7, _ => ⟨by kernel_rfl, by kernel_rfl, by kernel_rfl⟩
  | 8, _ => ⟨by kernel_rfl, by kernel_rfl, by kernel_rfl⟩
  | 9, _ => ⟨by kernel_rfl, by kernel_rfl, by kernel_rfl⟩
  | 10, _ => ⟨by kernel_rfl, by kernel_rfl, by kernel_rfl⟩
  | 11, _ => ⟨by kernel_rfl, by kernel_rfl, by kernel_rfl⟩
  | 12, _ => ⟨by kernel_rfl, by kernel_rfl, by kernel_rfl⟩
  | 13, _ => ⟨by kernel_rfl, by kernel_rfl, by kernel_rfl⟩
  | 14, _ => ⟨by kernel_rfl, by kernel_rfl, by kernel_rfl⟩
  | 15, _ => ⟨by kernel_rfl, by kernel_rfl, by kernel_rfl⟩
  | 16, _ => ⟨by kernel_rfl, by kernel_rfl, by kernel_rfl⟩
  | 17, _ => ⟨by kernel_rfl, by kernel_rfl, by kernel_rfl⟩
  | 18, _ => ⟨by kernel_rfl, by kernel_rfl, by kernel_rfl⟩
  | 19, _ => ⟨by kernel_rfl, by kernel_rfl, by kernel_rfl⟩
  | 20, _ => ⟨by kernel_rfl, by kernel_rfl, by kernel_rfl⟩
  | 21, _ => ⟨by kernel_rfl, by kernel_rfl, by kernel_rfl⟩
  | 22, _ => ⟨by kernel_rfl, by kernel_rfl, by kernel_rfl⟩
  | 23, _ => ⟨by kernel_rfl, by kernel_rfl, by kernel_rfl⟩
  | 24, _ => ⟨by kernel_rfl, by kernel_rfl, by kernel_rfl⟩
  | 25, _ => ⟨by kernel_rfl, by kernel_rfl, by kernel_rfl⟩
  | 26, _ => ⟨by kernel_rfl, by kernel_rfl, by kernel_rfl⟩
  | 27, _ => ⟨by kernel_rfl, by kernel_rfl, by kernel_rfl⟩
  | 28, _ => ⟨by kernel_rfl, by kernel_rfl, by kernel_rfl⟩
  | 29, _ => ⟨by kernel_rfl, by kernel_rfl, by kernel_rfl⟩
  | 30, _ => ⟨by kernel_rfl, by kernel_rfl, by kernel_rfl⟩
  | 31, _ => ⟨by kernel_rfl, by kernel_rfl, by kernel_rfl⟩
  | 32, _ => ⟨by kernel_rfl, by kernel_rfl, by kernel_rfl⟩
  | 33, _ => ⟨by kernel_rfl, by kernel_rfl, by kernel_rfl⟩
  | 34, _ => ⟨by kernel_rfl, by kernel_rfl, by kernel_rfl⟩
  | 35, _ => ⟨by kernel_rfl, by kernel_rfl, by kernel_rfl⟩
  | 36, _ => ⟨by kernel_rfl, by kernel_rfl, by kernel_rfl⟩
  | 37, _ => ⟨by kernel_rfl, by kernel_rfl, by kernel_rfl⟩
  | 38, _ => ⟨by kernel_rfl, by kernel_rfl, by kernel_rfl⟩
  | 39, _ => ⟨by kernel_rfl, by kernel_rfl, by kernel_rfl⟩
  | 40, _ => ⟨by kernel_rfl, by kernel_rfl, by kernel_rfl⟩
  | n + 41, h => absurd h (by omega)
theorem inM_one {w : World} {b off : Nat} (hM : InM w (some ⟨b, off, none⟩) onesC) {k : Nat} (hk : k < 41) :
    w.cell? ⟨b, off + k * 3, none⟩ = some (.int .u16 (ones.getD k noEnt).code) ∧ w.cell? ⟨b, off + k * 3 + 1, none⟩ = some (.string (ones.getD k noEnt).name) ∧ w.cell? ⟨b, off + k * 3 + 2, none⟩ = some (.int .u8 (ones.getD k noEnt).cls) :=
  ⟨hM.cell (ones_cells k hk).1, hM.cell (ones_cells k hk).2.1, hM.cell (ones_cells k hk).2.2⟩

end Go.Proofs.Ytjlhfmedaandeaa

namespace Go.Proofs.Ytjlhfmedaandeaa
open Go.RowKit Go.ChangeShapes Go.WideShapes
set_option linter.unusedVariables false

def byO (a : Int) : Ent × Bool := findO fun e => e.code == a
def nmO (t : ByteArray) : Ent × Bool := findO fun e => e.name.toList == t.toList
theorem findO_mem (p : Ent → Bool) : (findO p).1 ∈ noEnt :: ones := by
  unfold findO
  cases h : ones.find? p with
  | none => exact List.mem_cons_self
  | some e => exact List.mem_cons_of_mem _ (List.mem_of_find?_eq_some h)
def owx (e : Ent) : Bool := (e.cls == 3 || e.cls == 4) && e.name.toList.getLast? == some 120
end Go.Proofs.Ytjlhfmedaandeaa

namespace Go.Proofs.Ytjlhfmedaandeaa
open Go.RowKit Go.ChangeShapes Go.WideShapes
set_option linter.unusedVariables false

theorem agree {β : Type} [BEq β] [LawfulBEq β] (f : Ent → β) (b : β) (h1 : ∀ e ∈ ents, ones.find? (fun x => f x == f e) = some e) (h2 : ∀ e ∈ ones, e ∈ ents) : findE (fun e => f e == b) = findO (fun e => f e == b) := by
  unfold findE findO
  cases h : ents.find? (fun e => f e == b) with
  | some e =>
    have hb : f e = b := by have := List.find?_some h; simpa using this
    subst hb
    rw [h1 e (List.mem_of_find?_eq_some h)]
  | none =>
    cases h' : ones.find? (fun e => f e == b) with
    | none => rfl
    | some e' =>
      have := List.find?_some h'
      have hm := h2 e' (List.mem_of_find?_eq_some h')
      exact absurd this (List.find?_eq_none.1 h e' hm)
theorem ones_sub : ∀ e ∈ ones, e ∈ ents := by
  intro e he
  simp only [ones, List.mem_cons, List.not_mem_nil, or_false] at he
  rcases he with rfl | rfl | rfl | rfl | rfl | rfl | rfl | rfl | rfl | rfl | rfl | rfl | rfl | rfl | rfl | rfl | rfl | rfl | rfl | rfl | rfl | rfl | rfl | rfl | rfl | rfl | rfl | rfl | rfl | rfl | rfl | rfl | rfl | rfl | rfl | rfl | rfl | rfl | rfl | rfl | rfl
  · exact List.mem_of_getElem? (i := 0) (by kernel_rfl)
  · exact List.mem_of_getElem? (i := 1) (by kernel_rfl)
  · exact List.mem_of_getElem? (i := 2) (by kernel_rfl)
  · exact List.mem_of_getElem? (i := 3) (by kernel_rfl)
  · exact List.mem_of_getElem? (i := 4) (by kernel_rfl)
  · exact List.mem_of_getElem? (i := 5) (by kernel_rfl)
  · exact List.mem_of_getElem? (i := 6) (by kernel_rfl)
  · exact List.mem_of_getElem? (i := 7) (by kernel_rfl)
  · exact List.mem_of_getElem? (i := 8) (by kernel_rfl)
  · exact List.mem_of_getElem? (i := 27) (by kernel_rfl)
  · exact List.mem_of_getElem? (i := 28) (by kernel_rfl)
  · exact List.mem_of_getElem? (i := 37) (by kernel_rfl)
  · exact List.mem_of_getElem? (i := 38) (by kernel_rfl)
  · exact List.mem_of_getElem? (i := 39) (by kernel_rfl)
  · exact List.mem_of_getElem? (i := 40) (by kernel_rfl)
  · exact List.mem_of_getElem? (i := 9) (by kernel_rfl)
  · exact List.mem_of_getElem? (i := 18) (by kernel_rfl)
  · exact List.mem_of_getElem? (i := 10) (by kernel_rfl)
  · exact List.mem_of_getElem? (i := 19) (by kernel_rfl)
  · exact List.mem_of_getElem? (i := 11) (by kernel_rfl)
  · exact List.mem_of_getElem? (i := 20) (by kernel_rfl)
  · exact List.mem_of_getElem? (i := 12) (by kernel_rfl)
  · exact List.mem_of_getElem? (i := 21) (by kernel_rfl)
  · exact List.mem_of_getElem? (i := 13) (by kernel_rfl)
  · exact List.mem_of_getElem? (i := 22) (by kernel_rfl)
  · exact List.mem_of_getElem? (i := 14) (by kernel_rfl)
  · exact List.mem_of_getElem? (i := 23) (by kernel_rfl)
  · exact List.mem_of_getElem? (i := 15) (by kernel_rfl)
  · exact List.mem_of_getElem? (i := 24) (by kernel_rfl)
  · exact List.mem_of_getElem? (i := 16) (by kernel_rfl)
  · exact List.mem_of_getElem? (i := 25) (by kernel_rfl)
  · exact List.mem_of_getElem? (i := 17) (by kernel_rfl)
  · exact List.mem_of_getElem? (i := 26) (by kernel_rfl)
  · exact List.mem_of_getElem? (i := 29) (by kernel_rfl)
  · exact List.mem_of_getElem? (i := 33) (by kernel_rfl)
  · exact List.mem_of_getElem? (i := 30) (by kernel_rfl)
  · exact List.mem_of_getElem? (i := 34) (by kernel_rfl)
  · exact List.mem_of_getElem? (i := 31) (by kernel_rfl)
  · exact List.mem_of_getElem? (i := 35) (by kernel_rfl)
  · exact List.mem_of_getElem? (i := 32) (by kernel_rfl)
  · exact List.mem_of_getElem? (i := 36) (by kernel_rfl)
theorem code_key : ∀ e ∈ ents, ones.find? (fun x => x.code == e.code) = some e := by
  intro e he
  simp only [ents, List.mem_cons, List.not_mem_nil, or_false] at he
  rcases he with rfl | rfl | rfl | rfl | rfl | rfl | rfl | rfl | rfl | rfl | rfl | rfl | rfl | rfl | rfl | rfl | rfl | rfl | rfl | rfl | rfl | rfl | rfl | rfl | rfl | rfl | rfl | rfl | rfl | rfl | rfl | rfl | rfl | rfl | rfl | rfl | rfl | rfl | rfl | rfl | rfl
  all_goals kernel_rfl
theorem name_key : ∀ e ∈ ents, ones.find? (fun x => x.name.toList == e.name.toList) = some e := by
  intro e he
  simp only [ents, List.mem_cons, List.not_mem_nil, or_false] at he
  rcases he with rfl | rfl | rfl | rfl | rfl | rfl | rfl | rfl | rfl | rfl | rfl | rfl | rfl | rfl | rfl | rfl | rfl | rfl | rfl | rfl | rfl | rfl | rfl | rfl | rfl | rfl | rfl | rfl | rfl | rfl | rfl | rfl | rfl | rfl | rfl | rfl | rfl | rfl | rfl | rfl | rfl
  all_goals kernel_rfl
theorem by_same (a : Int) : byE a = byO a := agree (fun e => e.code) a code_key ones_sub
theorem nm_same (t : ByteArray) : nmE t = nmO t := agree (fun e => e.name.toList) t.toList name_key ones_sub
theorem by_cases_ (a : Int) : byE a = (noEnt, false) ∨ ∃ e ∈ ents, a = e.code ∧ byE a = (e, true) := by
  unfold byE findE
  cases h : ents.find? (fun e => e.code == a) with
  | none => exact .inl rfl
  | some e =>
    have := List.find?_some h
    exact .inr ⟨e, List.mem_of_find?_eq_some h, by simpa using (beq_iff_eq.1 this).symm, rfl⟩
theorem ent_facts : ∀ e ∈ ents, (!(e.name.toList == [])) = true ∧ (true && (e.cls == 3 || e.cls == 4) && (bits .and .u16 e.code 8 != 0)) = owx e := by
  intro e he
  simp only [ents, List.mem_cons, List.not_mem_nil, or_false] at he
  rcases he with rfl | rfl | rfl | rfl | rfl | rfl | rfl | rfl | rfl | rfl | rfl | rfl | rfl | rfl | rfl | rfl | rfl | rfl | rfl | rfl | rfl | rfl | rfl | rfl | rfl | rfl | rfl | rfl | rfl | rfl | rfl | rfl | rfl | rfl | rfl | rfl | rfl | rfl | rfl | rfl | rfl
  all_goals exact ⟨by kernel_rfl, by kernel_rfl⟩
theorem known_same (a : Int) : (!((byO a).1.name.toList == [])) = (byE a).2 := by
  rw [← by_same]
  rcases by_cases_ a with h | ⟨e, he, rfl, h⟩
  · rw [h]; kernel_rfl
  · rw [h]; exact (ent_facts e he).1
theorem withX_same (a : Int) : takesX a = owx (byO a).1 := by
  rw [← by_same]
  unfold takesX
  rcases by_cases_ a with h | ⟨e, he, rfl, h⟩
  · rw [h]; kernel_rfl
  · rw [h]; exact (ent_facts e he).2
end Go.Proofs.Ytjlhfmedaandeaa
