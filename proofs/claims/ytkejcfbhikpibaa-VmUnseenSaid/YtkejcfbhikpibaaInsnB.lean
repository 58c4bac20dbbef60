import Derived.Test.YtkejcfbhikpibaaInsnA
import Derived.Great.BuildSlice
namespace Go.Proofs.Ytkejcfbhikpibaa
open Go.RowKit Go.ChangeShapes Go.WideShapes
set_option linter.unusedVariables false

/-- The document's list. -/
def ones : List Ent := [⟨32, ⟨#[108, 100, 97, 98, 115]⟩, 1⟩, ⟨128, ⟨#[108, 100, 108, 101, 110]⟩, 1⟩, ⟨0, ⟨#[108, 100, 105]⟩, 1⟩, ⟨96, ⟨#[108, 100, 109]⟩, 1⟩, ⟨129, ⟨#[108, 100, 120, 108, 101, 110]⟩, 1⟩, ⟨1, ⟨#[108, 100, 120, 105]⟩, 1⟩, ⟨97, ⟨#[108, 100, 120, 109]⟩, 1⟩, ⟨2, ⟨#[115, 116]⟩, 2⟩, ⟨3, ⟨#[115, 116, 120]⟩, 2⟩, ⟨132, ⟨#[110, 101, 103]⟩, 3⟩, ⟨5, ⟨#[106, 97]⟩, 4⟩, ⟨6, ⟨#[114, 101, 116]⟩, 5⟩, ⟨22, ⟨#[114, 101, 116, 97]⟩, 5⟩, ⟨7, ⟨#[116, 97, 120]⟩, 6⟩, ⟨135, ⟨#[116, 120, 97]⟩, 6⟩, ⟨4, ⟨#[97, 100, 100]⟩, 3⟩, ⟨12, ⟨#[97, 100, 100, 120]⟩, 3⟩, ⟨20, ⟨#[115, 117, 98]⟩, 3⟩, ⟨28, ⟨#[115, 117, 98, 120]⟩, 3⟩, ⟨36, ⟨#[109, 117, 108]⟩, 3⟩, ⟨44, ⟨#[109, 117, 108, 120]⟩, 3⟩, ⟨52, ⟨#[100, 105, 118]⟩, 3⟩, ⟨60, ⟨#[100, 105, 118, 120]⟩, 3⟩, ⟨68, ⟨#[111, 114]⟩, 3⟩, ⟨76, ⟨#[111, 114, 120]⟩, 3⟩, ⟨84, ⟨#[97, 110, 100]⟩, 3⟩, ⟨92, ⟨#[97, 110, 100, 120]⟩, 3⟩, ⟨100, ⟨#[108, 115, 104]⟩, 3⟩, ⟨108, ⟨#[108, 115, 104, 120]⟩, 3⟩, ⟨116, ⟨#[114, 115, 104]⟩, 3⟩, ⟨124, ⟨#[114, 115, 104, 120]⟩, 3⟩, ⟨164, ⟨#[120, 111, 114]⟩, 3⟩, ⟨172, ⟨#[120, 111, 114, 120]⟩, 3⟩, ⟨21, ⟨#[106, 101, 113]⟩, 4⟩, ⟨29, ⟨#[106, 101, 113, 120]⟩, 4⟩, ⟨37, ⟨#[106, 103, 116]⟩, 4⟩, ⟨45, ⟨#[106, 103, 116, 120]⟩, 4⟩, ⟨53, ⟨#[106, 103, 101]⟩, 4⟩, ⟨61, ⟨#[106, 103, 101, 120]⟩, 4⟩, ⟨69, ⟨#[106, 115, 101, 116]⟩, 4⟩, ⟨77, ⟨#[106, 115, 101, 116, 120]⟩, 4⟩]
def onesC : List Value := [.int .u16 32, .string ⟨#[108, 100, 97, 98, 115]⟩, .int .u8 1, .int .u16 128, .string ⟨#[108, 100, 108, 101, 110]⟩, .int .u8 1, .int .u16 0, .string ⟨#[108, 100, 105]⟩, .int .u8 1, .int .u16 96, .string ⟨#[108, 100, 109]⟩, .int .u8 1, .int .u16 129, .string ⟨#[108, 100, 120, 108, 101, 110]⟩, .int .u8 1, .int .u16 1, .string ⟨#[108, 100, 120, 105]⟩, .int .u8 1, .int .u16 97, .string ⟨#[108, 100, 120, 109]⟩, .int .u8 1, .int .u16 2, .string ⟨#[115, 116]⟩, .int .u8 2, .int .u16 3, .string ⟨#[115, 116, 120]⟩, .int .u8 2, .int .u16 132, .string ⟨#[110, 101, 103]⟩, .int .u8 3, .int .u16 5, .string ⟨#[106, 97]⟩, .int .u8 4, .int .u16 6, .string ⟨#[114, 101, 116]⟩, .int .u8 5, .int .u16 22, .string ⟨#[114, 101, 116, 97]⟩, .int .u8 5, .int .u16 7, .string ⟨#[116, 97, 120]⟩, .int .u8 6, .int .u16 135, .string ⟨#[116, 120, 97]⟩, .int .u8 6, .int .u16 4, .string ⟨#[97, 100, 100]⟩, .int .u8 3, .int .u16 12, .string ⟨#[97, 100, 100, 120]⟩, .int .u8 3, .int .u16 20, .string ⟨#[115, 117, 98]⟩, .int .u8 3, .int .u16 28, .string ⟨#[115, 117, 98, 120]⟩, .int .u8 3, .int .u16 36, .string ⟨#[109, 117, 108]⟩, .int .u8 3, .int .u16 44, .string ⟨#[109, 117, 108, 120]⟩, .int .u8 3, .int .u16 52, .string ⟨#[100, 105, 118]⟩, .int .u8 3, .int .u16 60, .string ⟨#[100, 105, 118, 120]⟩, .int .u8 3, .int .u16 68, .string ⟨#[111, 114]⟩, .int .u8 3, .int .u16 76, .string ⟨#[111, 114, 120]⟩, .int .u8 3, .int .u16 84, .string ⟨#[97, 110, 100]⟩, .int .u8 3, .int .u16 92, .string ⟨#[97, 110, 100, 120]⟩, .int .u8 3, .int .u16 100, .string ⟨#[108, 115, 104]⟩, .int .u8 3, .int .u16 108, .string ⟨#[108, 115, 104, 120]⟩, .int .u8 3, .int .u16 116, .string ⟨#[114, 115, 104]⟩, .int .u8 3, .int .u16 124, .string ⟨#[114, 115, 104, 120]⟩, .int .u8 3, .int .u16 164, .string ⟨#[120, 111, 114]⟩, .int .u8 3, .int .u16 172, .string ⟨#[120, 111, 114, 120]⟩, .int .u8 3, .int .u16 21, .string ⟨#[106, 101, 113]⟩, .int .u8 4, .int .u16 29, .string ⟨#[106, 101, 113, 120]⟩, .int .u8 4, .int .u16 37, .string ⟨#[106, 103, 116]⟩, .int .u8 4, .int .u16 45, .string ⟨#[106, 103, 116, 120]⟩, .int .u8 4, .int .u16 53, .string ⟨#[106, 103, 101]⟩, .int .u8 4, .int .u16 61, .string ⟨#[106, 103, 101, 120]⟩, .int .u8 4, .int .u16 69, .string ⟨#[106, 115, 101, 116]⟩, .int .u8 4, .int .u16 77, .string ⟨#[106, 115, 101, 116, 120]⟩, .int .u8 4]

theorem wpList_buildSlice_lit {P : Program} {ops : Array Oper} {rest : List Oper} {o : Oper} {a : Act} {w : World} {Q : Exit → Act → World → Prop} (hg : o.guard = none) (t e : TypeId) (len : Nat) (parts : Array (Nat × Operand)) (ho : o.op = .buildSlice t len parts)
    (cells : Array Value) (z : Value) (size : Nat)
    (hu : P.underlying t = some (.slice e)) (hinfo : (P.info? e).map (fun i => (i.zero, i.size)) = some (some z, size)) (hsmall : ¬ len * size > 2 ^ 24) (hpos : ¬ len * size = 0)
    (hf : Instr.fill (fun i => some (i * size, size)) ((Array.range (len * size)).map (z.cells[· % z.cells.size]!)) (parts.map fun (i, x) => (i, a.eval x)).toList = some cells)
    (h : wpList P ops Q rest (a.put o.dst (.slice (some ⟨w.heap.size, 0, none⟩) len len)) (w.alloc (.cells cells e))) : wpList P ops Q (o :: rest) a w := by
  obtain ⟨i, hi, hzz⟩ := Option.map_eq_some_iff.1 hinfo
  simp only [Prod.mk.injEq] at hzz
  obtain ⟨hz, hs⟩ := hzz
  subst hs
  exact wpList_buildSlice hg t e len parts ho cells i z hu hi hz hsmall hpos hf h
theorem info_one : (Try.prog.info? 66).map (fun i => (i.zero, i.size, i.bytes)) = some (some (.agg #[.int .u16 0, .string ⟨#[]⟩, .int .u8 0]), 3, 32) := by kernel_rfl
def firstA : Array Value := #[.int .u16 32, .string ⟨#[108, 100, 97, 98, 115]⟩, .int .u8 1, .int .u16 128, .string ⟨#[108, 100, 108, 101, 110]⟩, .int .u8 1, .int .u16 0, .string ⟨#[108, 100, 105]⟩, .int .u8 1, .int .u16 96, .string ⟨#[108, 100, 109]⟩, .int .u8 1, .int .u16 129, .string ⟨#[108, 100, 120, 108, 101, 110]⟩, .int .u8 1, .int .u16 1, .string ⟨#[108, 100, 120, 105]⟩, .int .u8 1, .int .u16 97, .string ⟨#[108, 100, 120, 109]⟩, .int .u8 1, .int .u16 2, .string ⟨#[115, 116]⟩, .int .u8 2, .int .u16 3, .string ⟨#[115, 116, 120]⟩, .int .u8 2, .int .u16 132, .string ⟨#[110, 101, 103]⟩, .int .u8 3, .int .u16 5, .string ⟨#[106, 97]⟩, .int .u8 4, .int .u16 6, .string ⟨#[114, 101, 116]⟩, .int .u8 5, .int .u16 22, .string ⟨#[114, 101, 116, 97]⟩, .int .u8 5, .int .u16 7, .string ⟨#[116, 97, 120]⟩, .int .u8 6, .int .u16 135, .string ⟨#[116, 120, 97]⟩, .int .u8 6]
def numbersA : Array Value := #[.string ⟨#[97, 100, 100]⟩, .string ⟨#[115, 117, 98]⟩, .string ⟨#[109, 117, 108]⟩, .string ⟨#[100, 105, 118]⟩, .string ⟨#[111, 114]⟩, .string ⟨#[97, 110, 100]⟩, .string ⟨#[108, 115, 104]⟩, .string ⟨#[114, 115, 104]⟩]
def jumpsA : Array Value := #[.string ⟨#[106, 101, 113]⟩, .string ⟨#[106, 103, 116]⟩, .string ⟨#[106, 103, 101]⟩, .string ⟨#[106, 115, 101, 116]⟩]

/-- The state of the list after n entries: a row of the call's own, a list of words beside it. -/
def AllSt (W w : World) (gN : Nat) (cN : Array Value) (A : Option Addr) (c n : Nat) : Prop :=
  w.ownsRow W.heap.size 66 3 (.slice A n c) n (onesC.take (3 * n)) ∧ Blk w gN 9 cN ∧ (Value.slice A n c).ownBlock ≠ some gN ∧ Ext W w
theorem AllSt.step {W w w' : World} {gN : Nat} {cN : Array Value} {A A' : Option Addr} {c c' n : Nat} {o : Obj} {news : List Value} (h : AllSt W w gN cN A c n) (hcut : onesC.take (3 * (n + 1)) = onesC.take (3 * n) ++ news)
    (r : w'.ownsRow W.heap.size 66 3 (.slice A' (n + 1) c') (n + 1) (onesC.take (3 * n) ++ news)) (g : (w.alloc o).grownBy w' (Value.slice A n c).ownBlock)
    (t : (Value.slice A' (n + 1) c').ownBlock = (Value.slice A n c).ownBlock ∨ (Value.slice A' (n + 1) c').ownBlock = some (w.alloc o).heap.size) : AllSt W w' gN cN A' c' (n + 1) := by
  obtain ⟨h1, h2, h3, h4⟩ := h
  refine ⟨hcut ▸ r, (h2.alloc o).grown g (fun e => h3 e.symm), ?_, (h4.alloc o).app (own_ext h1 ((Ext.refl _).alloc _)) (Nat.le_refl _) g⟩
  rcases t with t | t
  · rw [t]; exact h3
  · rw [t]
    intro e
    injection e with e
    have := h2.lt
    have := ((Ext.refl w).alloc o).size
    omega
theorem AllSt.next {W w : World} {gN : Nat} {cN : Array Value} {A : Option Addr} {c n : Nat} (h : AllSt W w gN cN A c n) (J : Array Value) : AllSt W (w.alloc (.cells J 9)) w.heap.size J A c n :=
  ⟨own_ext h.1 ((Ext.refl _).alloc _), Blk.new _ _ _, fun e => Nat.lt_irrefl _ (h.1.lt _ e).2, h.2.2.2.alloc _⟩
theorem AllSt.cell {W w : World} {gN : Nat} {cN : Array Value} {A : Option Addr} {c n : Nat} (h : AllSt W w gN cN A c n) (k : Nat) : w.cell? ⟨gN, k, none⟩ = cN[k]? := h.2.1.cell k
theorem one3 (c q : Int) (s : ByteArray) : ∀ u ∈ [Value.int .u16 c, .string s, .int .u8 q], u.oneCell' = true := by simp [Value.oneCell']

set_option maxHeartbeats 4000000 in
set_option maxRecDepth 100000 in
theorem all_any (W : World) :
    Calls Try.prog 56 #[] W fun e w' => ∃ A c', e = .returned (.slice A 41 c') ∧ InM w' A onesC ∧ Ext W w' := by
  obtain ⟨i0, hi, hz0, hz1, hz2⟩ := info_parts info_one
  have HI := Lib.hid hi; have HZ0 := Lib.hid hz0; have HZ1 := Lib.hid hz1; have HZ2 := Lib.hid hz2
  clear hi hz0 hz1 hz2
  go_enter Try.func56, Try.ntmps56
  go_wp2_with (first | (refine wpList_buildSlice_lit rfl 94 66 15 _ rfl firstA (.agg #[.int .u16 0, .string ⟨#[]⟩, .int .u8 0]) 3 Try.underlying94 (by kernel_rfl) (by decide) (by decide) (by kernel_rfl) ?_) | (refine wpList_buildSlice_lit rfl 114 9 8 _ rfl numbersA (.string ⟨#[]⟩) 1 Try.underlying114 (by kernel_rfl) (by decide) (by decide) (by kernel_rfl) ?_))
  have h15 : AllSt W ((W.alloc (.cells firstA 66)).alloc (.cells numbersA 9)) (W.heap.size + 1) numbersA (some ⟨W.heap.size, 0, none⟩) 15 15 := by
    refine ⟨⟨by kernel_rfl, .inr ⟨W.heap.size, 15, firstA, rfl, Nat.le_refl _, (Blk.new W _ _).alloc _, by decide, by unfold maxLen; decide, by kernel_rfl, by kernel_rfl⟩⟩, Blk.new_ (by simp), ?_, ((Ext.refl W).alloc _).alloc _⟩
    intro e
    injection e with e
    dsimp only at e
    omega
  generalize (W.alloc (.cells firstA 66)).alloc (.cells numbersA 9) = z15 at *
  generalize hN : W.heap.size + 1 = gN at *
  clear hN
  refine wp_loop_rounds 9 ?_
  rw [rounds_succ]
  have q15 : z15.cell? ⟨gN, 0, none⟩ = some (.string ⟨#[97, 100, 100]⟩) := by rw [h15.cell]; rfl
  go_wp2_with (first | (at_builtin; refine wpList_app rfl (.tmp 29) (.tmp 39) _ rfl W.heap.size 66 i0 _ 3 32 Try.underlying94 HI.out HZ0.out HZ1.out HZ2.out rfl (by decide) (some ⟨W.heap.size, 0, none⟩) 15 15 (onesC.take (3 * 15)) rfl (own_ext h15.1 ((Ext.refl _).alloc _)) _ 1 1 [.int .u16 4, .string ⟨#[97, 100, 100]⟩, .int .u8 3] rfl rfl (InM.ofBlk (Blk.new_ rfl) rfl) (one3 _ _ _) (by decide) (by decide) ((h15.2.2.2.alloc _).size) ?_; intro A16 c16 z16 r g t; have h16 := h15.step (by kernel_rfl) r g t; clear r g t h15; have q16 : z16.cell? ⟨gN, 0, none⟩ = some (.string ⟨#[97, 100, 100]⟩) := (by rw [h16.cell]; rfl)) | (at_builtin; refine wpList_app rfl (.tmp 41) (.tmp 52) _ rfl W.heap.size 66 i0 _ 3 32 Try.underlying94 HI.out HZ0.out HZ1.out HZ2.out rfl (by decide) A16 16 c16 (onesC.take (3 * 16)) rfl (own_ext h16.1 ((Ext.refl _).alloc _)) _ 1 1 [.int .u16 12, .string ⟨#[97, 100, 100, 120]⟩, .int .u8 3] rfl rfl (InM.ofBlk (Blk.new_ rfl) rfl) (one3 _ _ _) (by decide) (by decide) ((h16.2.2.2.alloc _).size) ?_; intro A17 c17 z17 r g t; have h17 := h16.step (by kernel_rfl) r g t; clear r g t h16))
  clear q15 q16
  replace h17 : AllSt W z17 gN numbersA A17 c17 17 := h17
  rw [rounds_succ]
  have q17 : z17.cell? ⟨gN, 1, none⟩ = some (.string ⟨#[115, 117, 98]⟩) := by rw [h17.cell]; rfl
  go_wp2_with (first | (at_builtin; refine wpList_app rfl (.tmp 29) (.tmp 39) _ rfl W.heap.size 66 i0 _ 3 32 Try.underlying94 HI.out HZ0.out HZ1.out HZ2.out rfl (by decide) A17 17 c17 (onesC.take (3 * 17)) rfl (own_ext h17.1 ((Ext.refl _).alloc _)) _ 1 1 [.int .u16 20, .string ⟨#[115, 117, 98]⟩, .int .u8 3] rfl rfl (InM.ofBlk (Blk.new_ rfl) rfl) (one3 _ _ _) (by decide) (by decide) ((h17.2.2.2.alloc _).size) ?_; intro A18 c18 z18 r g t; have h18 := h17.step (by kernel_rfl) r g t; clear r g t h17; have q18 : z18.cell? ⟨gN, 1, none⟩ = some (.string ⟨#[115, 117, 98]⟩) := (by rw [h18.cell]; rfl)) | (at_builtin; refine wpList_app rfl (.tmp 41) (.tmp 52) _ rfl W.heap.size 66 i0 _ 3 32 Try.underlying94 HI.out HZ0.out HZ1.out HZ2.out rfl (by decide) A18 18 c18 (onesC.take (3 * 18)) rfl (own_ext h18.1 ((Ext.refl _).alloc _)) _ 1 1 [.int .u16 28, .string ⟨#[115, 117, 98, 120]⟩, .int .u8 3] rfl rfl (InM.ofBlk (Blk.new_ rfl) rfl) (one3 _ _ _) (by decide) (by decide) ((h18.2.2.2.alloc _).size) ?_; intro A19 c19 z19 r g t; have h19 := h18.step (by kernel_rfl) r g t; clear r g t h18))
  clear q17 q18
  replace h19 : AllSt W z19 gN numbersA A19 c19 19 := h19
  rw [rounds_succ]
  have q19 : z19.cell? ⟨gN, 2, none⟩ = some (.string ⟨#[109, 117, 108]⟩) := by rw [h19.cell]; rfl
  go_wp2_with (first | (at_builtin; refine wpList_app rfl (.tmp 29) (.tmp 39) _ rfl W.heap.size 66 i0 _ 3 32 Try.underlying94 HI.out HZ0.out HZ1.out HZ2.out rfl (by decide) A19 19 c19 (onesC.take (3 * 19)) rfl (own_ext h19.1 ((Ext.refl _).alloc _)) _ 1 1 [.int .u16 36, .string ⟨#[109, 117, 108]⟩, .int .u8 3] rfl rfl (InM.ofBlk (Blk.new_ rfl) rfl) (one3 _ _ _) (by decide) (by decide) ((h19.2.2.2.alloc _).size) ?_; intro A20 c20 z20 r g t; have h20 := h19.step (by kernel_rfl) r g t; clear r g t h19; have q20 : z20.cell? ⟨gN, 2, none⟩ = some (.string ⟨#[109, 117, 108]⟩) := (by rw [h20.cell]; rfl)) | (at_builtin; refine wpList_app rfl (.tmp 41) (.tmp 52) _ rfl W.heap.size 66 i0 _ 3 32 Try.underlying94 HI.out HZ0.out HZ1.out HZ2.out rfl (by decide) A20 20 c20 (onesC.take (3 * 20)) rfl (own_ext h20.1 ((Ext.refl _).alloc _)) _ 1 1 [.int .u16 44, .string ⟨#[109, 117, 108, 120]⟩, .int .u8 3] rfl rfl (InM.ofBlk (Blk.new_ rfl) rfl) (one3 _ _ _) (by decide) (by decide) ((h20.2.2.2.alloc _).size) ?_; intro A21 c21 z21 r g t; have h21 := h20.step (by kernel_rfl) r g t; clear r g t h20))
  clear q19 q20
  replace h21 : AllSt W z21 gN numbersA A21 c21 21 := h21
  rw [rounds_succ]
  have q21 : z21.cell? ⟨gN, 3, none⟩ = some (.string ⟨#[100, 105, 118]⟩) := by rw [h21.cell]; rfl
  go_wp2_with (first | (at_builtin; refine wpList_app rfl (.tmp 29) (.tmp 39) _ rfl W.heap.size 66 i0 _ 3 32 Try.underlying94 HI.out HZ0.out HZ1.out HZ2.out rfl (by decide) A21 21 c21 (onesC.take (3 * 21)) rfl (own_ext h21.1 ((Ext.refl _).alloc _)) _ 1 1 [.int .u16 52, .string ⟨#[100, 105, 118]⟩, .int .u8 3] rfl rfl (InM.ofBlk (Blk.new_ rfl) rfl) (one3 _ _ _) (by decide) (by decide) ((h21.2.2.2.alloc _).size) ?_; intro A22 c22 z22 r g t; have h22 := h21.step (by kernel_rfl) r g t; clear r g t h21; have q22 : z22.cell? ⟨gN, 3, none⟩ = some (.string ⟨#[100, 105, 118]⟩) := (by rw [h22.cell]; rfl)) | (at_builtin; refine wpList_app rfl (.tmp 41) (.tmp 52) _ rfl W.heap.size 66 i0 _ 3 32 Try.underlying94 HI.out HZ0.out HZ1.out HZ2.out rfl (by decide) A22 22 c22 (onesC.take (3 * 22)) rfl (own_ext h22.1 ((Ext.refl _).alloc _)) _ 1 1 [.int .u16 60, .string ⟨#[100, 105, 118, 120]⟩, .int .u8 3] rfl rfl (InM.ofBlk (Blk.new_ rfl) rfl) (one3 _ _ _) (by decide) (by decide) ((h22.2.2.2.alloc _).size) ?_; intro A23 c23 z23 r g t; have h23 := h22.step (by kernel_rfl) r g t; clear r g t h22))
  clear q21 q22
  replace h23 : AllSt W z23 gN numbersA A23 c23 23 := h23
  rw [rounds_succ]
  have q23 : z23.cell? ⟨gN, 4, none⟩ = some (.string ⟨#[111, 114]⟩) := by rw [h23.cell]; rfl
  go_wp2_with (first | (at_builtin; refine wpList_app rfl (.tmp 29) (.tmp 39) _ rfl W.heap.size 66 i0 _ 3 32 Try.underlying94 HI.out HZ0.out HZ1.out HZ2.out rfl (by decide) A23 23 c23 (onesC.take (3 * 23)) rfl (own_ext h23.1 ((Ext.refl _).alloc _)) _ 1 1 [.int .u16 68, .string ⟨#[111, 114]⟩, .int .u8 3] rfl rfl (InM.ofBlk (Blk.new_ rfl) rfl) (one3 _ _ _) (by decide) (by decide) ((h23.2.2.2.alloc _).size) ?_; intro A24 c24 z24 r g t; have h24 := h23.step (by kernel_rfl) r g t; clear r g t h23; have q24 : z24.cell? ⟨gN, 4, none⟩ = some (.string ⟨#[111, 114]⟩) := (by rw [h24.cell]; rfl)) | (at_builtin; refine wpList_app rfl (.tmp 41) (.tmp 52) _ rfl W.heap.size 66 i0 _ 3 32 Try.underlying94 HI.out HZ0.out HZ1.out HZ2.out rfl (by decide) A24 24 c24 (onesC.take (3 * 24)) rfl (own_ext h24.1 ((Ext.refl _).alloc _)) _ 1 1 [.int .u16 76, .string ⟨#[111, 114, 120]⟩, .int .u8 3] rfl rfl (InM.ofBlk (Blk.new_ rfl) rfl) (one3 _ _ _) (by decide) (by decide) ((h24.2.2.2.alloc _).size) ?_; intro A25 c25 z25 r g t; have h25 := h24.step (by kernel_rfl) r g t; clear r g t h24))
  clear q23 q24
  replace h25 : AllSt W z25 gN numbersA A25 c25 25 := h25
  rw [rounds_succ]
  have q25 : z25.cell? ⟨gN, 5, none⟩ = some (.string ⟨#[97, 110, 100]⟩) := by rw [h25.cell]; rfl
  go_wp2_with (first | (at_builtin; refine wpList_app rfl (.tmp 29) (.tmp 39) _ rfl W.heap.size 66 i0 _ 3 32 Try.underlying94 HI.out HZ0.out HZ1.out HZ2.out rfl (by decide) A25 25 c25 (onesC.take (3 * 25)) rfl (own_ext h25.1 ((Ext.refl _).alloc _)) _ 1 1 [.int .u16 84, .string ⟨#[97, 110, 100]⟩, .int .u8 3] rfl rfl (InM.ofBlk (Blk.new_ rfl) rfl) (one3 _ _ _) (by decide) (by decide) ((h25.2.2.2.alloc _).size) ?_; intro A26 c26 z26 r g t; have h26 := h25.step (by kernel_rfl) r g t; clear r g t h25; have q26 : z26.cell? ⟨gN, 5, none⟩ = some (.string ⟨#[97, 110, 100]⟩) := (by rw [h26.cell]; rfl)) | (at_builtin; refine wpList_app rfl (.tmp 41) (.tmp 52) _ rfl W.heap.size 66 i0 _ 3 32 Try.underlying94 HI.out HZ0.out HZ1.out HZ2.out rfl (by decide) A26 26 c26 (onesC.take (3 * 26)) rfl (own_ext h26.1 ((Ext.refl _).alloc _)) _ 1 1 [.int .u16 92, .string ⟨#[97, 110, 100, 120]⟩, .int .u8 3] rfl rfl (InM.ofBlk (Blk.new_ rfl) rfl) (one3 _ _ _) (by decide) (by decide) ((h26.2.2.2.alloc _).size) ?_; intro A27 c27 z27 r g t; have h27 := h26.step (by kernel_rfl) r g t; clear r g t h26))
  clear q25 q26
  replace h27 : AllSt W z27 gN numbersA A27 c27 27 := h27
  rw [rounds_succ]
  have q27 : z27.cell? ⟨gN, 6, none⟩ = some (.string ⟨#[108, 115, 104]⟩) := by rw [h27.cell]; rfl
  go_wp2_with (first | (at_builtin; refine wpList_app rfl (.tmp 29) (.tmp 39) _ rfl W.heap.size 66 i0 _ 3 32 Try.underlying94 HI.out HZ0.out HZ1.out HZ2.out rfl (by decide) A27 27 c27 (onesC.take (3 * 27)) rfl (own_ext h27.1 ((Ext.refl _).alloc _)) _ 1 1 [.int .u16 100, .string ⟨#[108, 115, 104]⟩, .int .u8 3] rfl rfl (InM.ofBlk (Blk.new_ rfl) rfl) (one3 _ _ _) (by decide) (by decide) ((h27.2.2.2.alloc _).size) ?_; intro A28 c28 z28 r g t; have h28 := h27.step (by kernel_rfl) r g t; clear r g t h27; have q28 : z28.cell? ⟨gN, 6, none⟩ = some (.string ⟨#[108, 115, 104]⟩) := (by rw [h28.cell]; rfl)) | (at_builtin; refine wpList_app rfl (.tmp 41) (.tmp 52) _ rfl W.heap.size 66 i0 _ 3 32 Try.underlying94 HI.out HZ0.out HZ1.out HZ2.out rfl (by decide) A28 28 c28 (onesC.take (3 * 28)) rfl (own_ext h28.1 ((Ext.refl _).alloc _)) _ 1 1 [.int .u16 108, .string ⟨#[108, 115, 104, 120]⟩, .int .u8 3] rfl rfl (InM.ofBlk (Blk.new_ rfl) rfl) (one3 _ _ _) (by decide) (by decide) ((h28.2.2.2.alloc _).size) ?_; intro A29 c29 z29 r g t; have h29 := h28.step (by kernel_rfl) r g t; clear r g t h28))
  clear q27 q28
  replace h29 : AllSt W z29 gN numbersA A29 c29 29 := h29
  rw [rounds_succ]
  have q29 : z29.cell? ⟨gN, 7, none⟩ = some (.string ⟨#[114, 115, 104]⟩) := by rw [h29.cell]; rfl
  go_wp2_with (first | (at_builtin; refine wpList_app rfl (.tmp 29) (.tmp 39) _ rfl W.heap.size 66 i0 _ 3 32 Try.underlying94 HI.out HZ0.out HZ1.out HZ2.out rfl (by decide) A29 29 c29 (onesC.take (3 * 29)) rfl (own_ext h29.1 ((Ext.refl _).alloc _)) _ 1 1 [.int .u16 116, .string ⟨#[114, 115, 104]⟩, .int .u8 3] rfl rfl (InM.ofBlk (Blk.new_ rfl) rfl) (one3 _ _ _) (by decide) (by decide) ((h29.2.2.2.alloc _).size) ?_; intro A30 c30 z30 r g t; have h30 := h29.step (by kernel_rfl) r g t; clear r g t h29; have q30 : z30.cell? ⟨gN, 7, none⟩ = some (.string ⟨#[114, 115, 104]⟩) := (by rw [h30.cell]; rfl)) | (at_builtin; refine wpList_app rfl (.tmp 41) (.tmp 52) _ rfl W.heap.size 66 i0 _ 3 32 Try.underlying94 HI.out HZ0.out HZ1.out HZ2.out rfl (by decide) A30 30 c30 (onesC.take (3 * 30)) rfl (own_ext h30.1 ((Ext.refl _).alloc _)) _ 1 1 [.int .u16 124, .string ⟨#[114, 115, 104, 120]⟩, .int .u8 3] rfl rfl (InM.ofBlk (Blk.new_ rfl) rfl) (one3 _ _ _) (by decide) (by decide) ((h30.2.2.2.alloc _).size) ?_; intro A31 c31 z31 r g t; have h31 := h30.step (by kernel_rfl) r g t; clear r g t h30))
  clear q29 q30
  replace h31 : AllSt W z31 gN numbersA A31 c31 31 := h31
  rw [rounds_succ]
  go_wp2_with (first | (at_builtin; refine wpList_app rfl (.tmp 54) (.tmp 56) _ rfl W.heap.size 66 i0 _ 3 32 Try.underlying94 HI.out HZ0.out HZ1.out HZ2.out rfl (by decide) A31 31 c31 (onesC.take (3 * 31)) rfl (own_ext h31.1 ((Ext.refl _).alloc _)) _ 1 1 [.int .u16 164, .string ⟨#[120, 111, 114]⟩, .int .u8 3] rfl rfl (InM.ofBlk (Blk.new_ rfl) rfl) (one3 _ _ _) (by decide) (by decide) ((h31.2.2.2.alloc _).size) ?_; intro A32 c32 z32 r g t; have h32 := h31.step (by kernel_rfl) r g t; clear r g t h31) | (at_builtin; refine wpList_app rfl (.tmp 58) (.tmp 60) _ rfl W.heap.size 66 i0 _ 3 32 Try.underlying94 HI.out HZ0.out HZ1.out HZ2.out rfl (by decide) A32 32 c32 (onesC.take (3 * 32)) rfl (own_ext h32.1 ((Ext.refl _).alloc _)) _ 1 1 [.int .u16 172, .string ⟨#[120, 111, 114, 120]⟩, .int .u8 3] rfl rfl (InM.ofBlk (Blk.new_ rfl) rfl) (one3 _ _ _) (by decide) (by decide) ((h32.2.2.2.alloc _).size) ?_; intro A33 c33 z33 r g t; have h33 := h32.step (by kernel_rfl) r g t; clear r g t h32) | (refine wpList_buildSlice_lit rfl 114 9 4 _ rfl jumpsA (.string ⟨#[]⟩) 1 Try.underlying114 (by kernel_rfl) (by decide) (by decide) (by kernel_rfl) ?_))
  replace h33 : AllSt W (z33.alloc (.cells jumpsA 9)) z33.heap.size jumpsA A33 c33 33 := h33.next jumpsA
  generalize z33.alloc (.cells jumpsA 9) = y33 at *
  generalize z33.heap.size = gJ at *
  have z33 := y33
  refine wp_loop_rounds 5 ?_
  rw [rounds_succ]
  have q33 : y33.cell? ⟨gJ, 0, none⟩ = some (.string ⟨#[106, 101, 113]⟩) := by rw [h33.cell]; rfl
  go_wp2_with (first | (at_builtin; refine wpList_app rfl (.tmp 69) (.tmp 79) _ rfl W.heap.size 66 i0 _ 3 32 Try.underlying94 HI.out HZ0.out HZ1.out HZ2.out rfl (by decide) A33 33 c33 (onesC.take (3 * 33)) rfl (own_ext h33.1 ((Ext.refl _).alloc _)) _ 1 1 [.int .u16 21, .string ⟨#[106, 101, 113]⟩, .int .u8 4] rfl rfl (InM.ofBlk (Blk.new_ rfl) rfl) (one3 _ _ _) (by decide) (by decide) ((h33.2.2.2.alloc _).size) ?_; intro A34 c34 z34 r g t; have h34 := h33.step (by kernel_rfl) r g t; clear r g t h33; have q34 : z34.cell? ⟨gJ, 0, none⟩ = some (.string ⟨#[106, 101, 113]⟩) := (by rw [h34.cell]; rfl)) | (at_builtin; refine wpList_app rfl (.tmp 81) (.tmp 92) _ rfl W.heap.size 66 i0 _ 3 32 Try.underlying94 HI.out HZ0.out HZ1.out HZ2.out rfl (by decide) A34 34 c34 (onesC.take (3 * 34)) rfl (own_ext h34.1 ((Ext.refl _).alloc _)) _ 1 1 [.int .u16 29, .string ⟨#[106, 101, 113, 120]⟩, .int .u8 4] rfl rfl (InM.ofBlk (Blk.new_ rfl) rfl) (one3 _ _ _) (by decide) (by decide) ((h34.2.2.2.alloc _).size) ?_; intro A35 c35 z35 r g t; have h35 := h34.step (by kernel_rfl) r g t; clear r g t h34))
  clear q33 q34
  replace h35 : AllSt W z35 gJ jumpsA A35 c35 35 := h35
  rw [rounds_succ]
  have q35 : z35.cell? ⟨gJ, 1, none⟩ = some (.string ⟨#[106, 103, 116]⟩) := by rw [h35.cell]; rfl
  go_wp2_with (first | (at_builtin; refine wpList_app rfl (.tmp 69) (.tmp 79) _ rfl W.heap.size 66 i0 _ 3 32 Try.underlying94 HI.out HZ0.out HZ1.out HZ2.out rfl (by decide) A35 35 c35 (onesC.take (3 * 35)) rfl (own_ext h35.1 ((Ext.refl _).alloc _)) _ 1 1 [.int .u16 37, .string ⟨#[106, 103, 116]⟩, .int .u8 4] rfl rfl (InM.ofBlk (Blk.new_ rfl) rfl) (one3 _ _ _) (by decide) (by decide) ((h35.2.2.2.alloc _).size) ?_; intro A36 c36 z36 r g t; have h36 := h35.step (by kernel_rfl) r g t; clear r g t h35; have q36 : z36.cell? ⟨gJ, 1, none⟩ = some (.string ⟨#[106, 103, 116]⟩) := (by rw [h36.cell]; rfl)) | (at_builtin; refine wpList_app rfl (.tmp 81) (.tmp 92) _ rfl W.heap.size 66 i0 _ 3 32 Try.underlying94 HI.out HZ0.out HZ1.out HZ2.out rfl (by decide) A36 36 c36 (onesC.take (3 * 36)) rfl (own_ext h36.1 ((Ext.refl _).alloc _)) _ 1 1 [.int .u16 45, .string ⟨#[106, 103, 116, 120]⟩, .int .u8 4] rfl rfl (InM.ofBlk (Blk.new_ rfl) rfl) (one3 _ _ _) (by decide) (by decide) ((h36.2.2.2.alloc _).size) ?_; intro A37 c37 z37 r g t; have h37 := h36.step (by kernel_rfl) r g t; clear r g t h36))
  clear q35 q36
  replace h37 : AllSt W z37 gJ jumpsA A37 c37 37 := h37
  rw [rounds_succ]
  have q37 : z37.cell? ⟨gJ, 2, none⟩ = some (.string ⟨#[106, 103, 101]⟩) := by rw [h37.cell]; rfl
  go_wp2_with (first | (at_builtin; refine wpList_app rfl (.tmp 69) (.tmp 79) _ rfl W.heap.size 66 i0 _ 3 32 Try.underlying94 HI.out HZ0.out HZ1.out HZ2.out rfl (by decide) A37 37 c37 (onesC.take (3 * 37)) rfl (own_ext h37.1 ((Ext.refl _).alloc _)) _ 1 1 [.int .u16 53, .string ⟨#[106, 103, 101]⟩, .int .u8 4] rfl rfl (InM.ofBlk (Blk.new_ rfl) rfl) (one3 _ _ _) (by decide) (by decide) ((h37.2.2.2.alloc _).size) ?_; intro A38 c38 z38 r g t; have h38 := h37.step (by kernel_rfl) r g t; clear r g t h37; have q38 : z38.cell? ⟨gJ, 2, none⟩ = some (.string ⟨#[106, 103, 101]⟩) := (by rw [h38.cell]; rfl)) | (at_builtin; refine wpList_app rfl (.tmp 81) (.tmp 92) _ rfl W.heap.size 66 i0 _ 3 32 Try.underlying94 HI.out HZ0.out HZ1.out HZ2.out rfl (by decide) A38 38 c38 (onesC.take (3 * 38)) rfl (own_ext h38.1 ((Ext.refl _).alloc _)) _ 1 1 [.int .u16 61, .string ⟨#[106, 103, 101, 120]⟩, .int .u8 4] rfl rfl (InM.ofBlk (Blk.new_ rfl) rfl) (one3 _ _ _) (by decide) (by decide) ((h38.2.2.2.alloc _).size) ?_; intro A39 c39 z39 r g t; have h39 := h38.step (by kernel_rfl) r g t; clear r g t h38))
  clear q37 q38
  replace h39 : AllSt W z39 gJ jumpsA A39 c39 39 := h39
  rw [rounds_succ]
  have q39 : z39.cell? ⟨gJ, 3, none⟩ = some (.string ⟨#[106, 115, 101, 116]⟩) := by rw [h39.cell]; rfl
  go_wp2_with (first | (at_builtin; refine wpList_app rfl (.tmp 69) (.tmp 79) _ rfl W.heap.size 66 i0 _ 3 32 Try.underlying94 HI.out HZ0.out HZ1.out HZ2.out rfl (by decide) A39 39 c39 (onesC.take (3 * 39)) rfl (own_ext h39.1 ((Ext.refl _).alloc _)) _ 1 1 [.int .u16 69, .string ⟨#[106, 115, 101, 116]⟩, .int .u8 4] rfl rfl (InM.ofBlk (Blk.new_ rfl) rfl) (one3 _ _ _) (by decide) (by decide) ((h39.2.2.2.alloc _).size) ?_; intro A40 c40 z40 r g t; have h40 := h39.step (by kernel_rfl) r g t; clear r g t h39; have q40 : z40.cell? ⟨gJ, 3, none⟩ = some (.string ⟨#[106, 115, 101, 116]⟩) := (by rw [h40.cell]; rfl)) | (at_builtin; refine wpList_app rfl (.tmp 81) (.tmp 92) _ rfl W.heap.size 66 i0 _ 3 32 Try.underlying94 HI.out HZ0.out HZ1.out HZ2.out rfl (by decide) A40 40 c40 (onesC.take (3 * 40)) rfl (own_ext h40.1 ((Ext.refl _).alloc _)) _ 1 1 [.int .u16 77, .string ⟨#[106, 115, 101, 116, 120]⟩, .int .u8 4] rfl rfl (InM.ofBlk (Blk.new_ rfl) rfl) (one3 _ _ _) (by decide) (by decide) ((h40.2.2.2.alloc _).size) ?_; intro A41 c41 z41 r g t; have h41 := h40.step (by kernel_rfl) r g t; clear r g t h40))
  clear q39 q40
  replace h41 : AllSt W z41 gJ jumpsA A41 c41 41 := h41
  rw [rounds_succ]
  go_wp2
  go_ret
  exact ⟨A41, c41, rfl, own_inM h41.1, h41.2.2.2⟩
end Go.Proofs.Ytkejcfbhikpibaa

namespace Go.Proofs.Ytkejcfbhikpibaa
open Go.RowKit Go.ChangeShapes Go.WideShapes
set_option linter.unusedVariables false

/-- The first entry of the document's list of which p holds. -/
def findO (p : Ent → Bool) : Ent × Bool := match ones.find? p with
  | some e => (e, true)
  | none => (noEnt, false)
theorem findO_at {p : Ent → Bool} {k : Nat} (hk : k < 41) (hno : ∀ j, j < k → p (ones.getD j noEnt) = false) (h : p (ones.getD k noEnt) = true) : findO p = (ones.getD k noEnt, true) := by
  have hl : ones.length = 41 := rfl
  have : ones.find? p = some (ones.getD k noEnt) := by
    rw [List.find?_eq_some_iff_getElem]
    refine ⟨h, k, by omega, ?_, fun j hj => ?_⟩
    · rw [List.getD_eq_getElem?_getD, List.getElem?_eq_getElem (by omega)]; rfl
    · have := hno j hj
      rw [List.getD_eq_getElem?_getD, List.getElem?_eq_getElem (show j < ones.length by omega)] at this
      simpa using this
  unfold findO
  rw [this]
theorem findO_no {p : Ent → Bool} (hno : ∀ j, j < 41 → p (ones.getD j noEnt) = false) : findO p = (noEnt, false) := by
  have hl : ones.length = 41 := rfl
  have : ones.find? p = none := by
    rw [List.find?_eq_none]
    intro x hx
    obtain ⟨j, hj, rfl⟩ := List.getElem_of_mem hx
    have := hno j (by omega)
    rw [List.getD_eq_getElem?_getD, List.getElem?_eq_getElem hj] at this
    simpa using this
  unfold findO
  rw [this]
theorem ones_cells : ∀ (k : Nat) (hk : k < 41), onesC[k * 3]? = some (.int .u16 (ones.getD k noEnt).code) ∧ onesC[k * 3 + 1]? = some (.string (ones.getD k noEnt).name) ∧ onesC[k * 3 + 2]? = some (.int .u8 (ones.getD k noEnt).cls)
  | 0, _ => ⟨by kernel_rfl, by kernel_rfl, by kernel_rfl⟩
  | 1, _ => ⟨by kernel_rfl, by kernel_rfl, by kernel_rfl⟩
  | 2, _ => ⟨by kernel_rfl, by kernel_rfl, by kernel_rfl⟩
  | 3, _ => ⟨by kernel_rfl, by kernel_rfl, by kernel_rfl⟩
  | 4, _ => ⟨by kernel_rfl, by kernel_rfl, by kernel_rfl⟩
  | 5, _ => ⟨by kernel_rfl, by kernel_rfl, by kernel_rfl⟩
  | 6, _ => ⟨by kernel_rfl, by kernel_rfl, by kernel_rfl⟩
  | 7, _ => ⟨by kernel_rfl, by kernel_rfl, by kernel_rfl⟩
  | 8, _ => ⟨by kernel_rfl, by kernel_rfl, by kernel_rfl⟩
  | 9, _ => ⟨by kernel_rfl, by kernel_rfl, by kernel_rfl⟩
  | 10, _ => ⟨by kernel_rfl, by kernel_rfl, by kernel_rfl⟩
  | 11, _ => ⟨by kernel_rfl, by kernel_rfl, by kernel_rfl⟩
  | 12, _ => ⟨by kernel_rfl, by kernel_rfl, by kernel_rfl⟩
  | 13, _ => ⟨by kernel_rfl, by kernel_rfl, by kernel_rfl⟩
  | 14, _ => ⟨by kernel_rfl, by kernel_rfl, by kernel_rfl⟩
  | 15, _ => ⟨by kernel_rfl, by kernel_rfl, by kernel_rfl⟩
  | 16, _ => ⟨by kernel_rfl, by kernel_rfl, by kernel_rfl⟩
  | 17, _ => ⟨by kernel_rfl, by kernel_rfl, by kernel_rfl⟩
  | 18, _ => ⟨by kernel_rfl, by kernel_rfl, by kernel_rfl⟩
  | 19, _ => ⟨by kernel_rfl, by kernel_rfl, by kernel_rfl⟩
  | 20, _ => ⟨by kernel_rfl, by kernel_rfl, by kernel_rfl⟩
  | 21, _ => ⟨by kernel_rfl, by kernel_rfl, by kernel_rfl⟩
  | 22, _ => ⟨by kernel_rfl, by kernel_rfl, by kernel_rfl⟩
  | 23, _ => ⟨by kernel_rfl, by kernel_rfl, by kernel_rfl⟩
  | 24, _ => ⟨by kernel_rfl, by kernel_rfl, by kernel_rfl⟩
  | 25, _ => ⟨by kernel_rfl, by kernel_rfl, by kernel_rfl⟩
  | 26, _ => ⟨by kernel_rfl, by kernel_rfl, by kernel_rfl⟩
  | 27, _ => ⟨by kernel_rfl, by kernel_rfl, by kernel_rfl⟩
  | 28, _ => ⟨by kernel_rfl, by kernel_rfl, by kernel_rfl⟩
  | 29, _ => ⟨by kernel_rfl, by kernel_rfl, by kernel_rfl⟩
  | 30, _ => ⟨by kernel_rfl, by kernel_rfl, by kernel_rfl⟩
  | 31, _ => ⟨by kernel_rfl, by kernel_rfl, by kernel_rfl⟩
  | 32, _ => ⟨by kernel_rfl, by kernel_rfl, by kernel_rfl⟩
  | 33, _ => ⟨by kernel_rfl, by kernel_rfl, by kernel_rfl⟩
  | 34, _ => ⟨by kernel_rfl, by kernel_rfl, by kernel_rfl⟩
  | 35, _ => ⟨by kernel_rfl, by kernel_rfl, by kernel_rfl⟩
  | 36, _ => ⟨by kernel_rfl, by kernel_rfl, by kernel_rfl⟩
  | 37, _ => ⟨by kernel_rfl, by kernel_rfl, by kernel_rfl⟩
  | 38, _ => ⟨by kernel_rfl, by kernel_rfl, by kernel_rfl⟩
  | 39, _ => ⟨by kernel_rfl, by kernel_rfl, by kernel_rfl⟩
  | 40, _ => ⟨by kernel_rfl, by kernel_rfl, by kernel_rfl⟩
  | n + 41, h => absurd h (by omega)
theorem inM_one {w : World} {b off : Nat} (hM : InM w (some ⟨b, off, none⟩) onesC) {k : Nat} (hk : k < 41) :
    w.cell? ⟨b, off + k * 3, none⟩ = some (.int .u16 (ones.getD k noEnt).code) ∧ w.cell? ⟨b, off + k * 3 + 1, none⟩ = some (.string (ones.getD k noEnt).name) ∧ w.cell? ⟨b, off + k * 3 + 2, none⟩ = some (.int .u8 (ones.getD k noEnt).cls) :=
  ⟨hM.cell (ones_cells k hk).1, hM.cell (ones_cells k hk).2.1, hM.cell (ones_cells k hk).2.2⟩

set_option maxRecDepth 100000 in
theorem refOf_any (a : Int) (W : World) :
    Calls Try.prog 33 #[.int .u16 a] W fun e w' => e = .returned (findO fun e => e.code == a).1.val ∧ Ext W w' := by
  have HA := Lib.hid (fun W : World => all_any W)
  have HI := Lib.hid (fun (w : World) (b off : Nat) (hM : InM w (some ⟨b, off, none⟩) onesC) (k : Nat) (hk : k < 41) => inM_one hM hk)
  have HF := Lib.hid (fun (k : Nat) (hk : k < 41) => findO_at (p := fun e => e.code == a) hk)
  have HN := Lib.hid (findO_no (p := fun e => e.code == a))
  have HL := Lib.hid (show 0 < onesC.length by decide)
  generalize onesC = L at *
  generalize findO (fun e => e.code == a) = R at *
  go_enter Try.func33, Try.ntmps33
  go_wp2_with fail
  have B0 := (Blk.new W 66 #[.int .u16 0, .string ⟨#[]⟩, .int .u8 0])
  have hx0 := (Ext.refl W).alloc (.cells #[.int .u16 0, .string ⟨#[]⟩, .int .u8 0] 66)
  refine (HA.out _).mono ?_
  rintro e w1 ⟨A, c', rfl, hM, hx1⟩
  obtain ⟨b, off, rfl, hb⟩ := hM.some_ HL.out
  replace hx0 := hx0.trans hx1
  replace B0 := B0.ext hx1
  clear hx1
  go_wp2_with fail
  go_loopw [4] (fun i wr => ∃ k : Nat, k ≤ 41 ∧ i = .int .i64 k ∧ (∀ j, j < k → ((ones.getD j noEnt).code == a) = false) ∧ wr = w1) (fun i _ => 41 - (intOf i).toNat)
  case atStart => exact ⟨0, by decide, rfl, fun j hj => absurd hj (by omega), rfl⟩
  case round =>
    obtain ⟨k, hk, rfl, hno, rfl⟩ := hrel
    by_cases hlt : k < 41
    · obtain ⟨m1, m2, m3⟩ := HI.out _ _ _ hM k hlt
      have hf := Lib.hid (HF.out k hlt hno)
      have hno' : ∀ (h : ((ones.getD k noEnt).code == a) = false) j, j < k + 1 → ((ones.getD j noEnt).code == a) = false := fun h j hj => by
        rcases Nat.lt_succ_iff_lt_or_eq.1 hj with h1 | rfl
        · exact hno j h1
        · exact h
      generalize ones.getD k noEnt = E at *
      obtain ⟨c, s, q⟩ := E
      dsimp only at hf hno' m1 m2 m3
      by_cases h : (c == a) = true
      · have hR := hf.out h
        subst hR
        clear hno hno' hf HF HN HI HA hM
        go_wp2_with (refine wpList_store_all rfl 66 (.tmp 2) (.tmp _) rfl _ _ _ _ rfl rfl B0 rfl (by kernel_rfl) (by simp [Value.oneCell']) ?_; intro wz Bz hgz)
        exact bodyPost_ret (results_blk1 rfl _ _ _ _ _ _ rfl Bz Try.underlying66 rfl (by kernel_rfl)) rfl ⟨rfl, hx0.grown hgz (fun k e => by cases e; exact Nat.le_refl _)⟩
      · have h : (c == a) = false := by simpa using h
        replace hno' := hno' h
        clear hno hf
        go_wp2
        go_roundw
        case rel => exact ⟨k + 1, by omega, by go_num, hno', trivial⟩
        case measure => simp [intOf]; omega
    · obtain rfl : k = 41 := by omega
      have hR := HN.out hno
      subst hR
      clear hno HF HN HI HA hM
      go_wp2_with (refine wpList_store_all rfl 66 (.tmp 2) (.tmp _) rfl _ _ _ _ rfl rfl B0 rfl (by kernel_rfl) (by simp [Value.oneCell']) ?_; intro wz Bz hgz)
      exact bodyPost_ret (results_blk1 rfl _ _ _ _ _ _ rfl Bz Try.underlying66 rfl (by kernel_rfl)) rfl ⟨rfl, hx0.grown hgz (fun k e => by cases e; exact Nat.le_refl _)⟩
end Go.Proofs.Ytkejcfbhikpibaa

namespace Go.Proofs.Ytkejcfbhikpibaa
open Go.RowKit Go.ChangeShapes Go.WideShapes
set_option linter.unusedVariables false

def byO (a : Int) : Ent × Bool := findO fun e => e.code == a
def nmO (t : ByteArray) : Ent × Bool := findO fun e => e.name.toList == t.toList
theorem one_field (c q : Int) (s : ByteArray) (W : World) : (Instr.field 66 (.agg #[.int .u16 c, .string s, .int .u8 q]) 1).run Try.prog W = .ok (.string s) W := by kernel_rfl
set_option maxRecDepth 100000 in
theorem refKnown_any (a : Int) (W : World) :
    Calls Try.prog 52 #[.int .u16 a] W fun e w' => e = .returned (.bool (!((byO a).1.name.toList == []))) ∧ Ext W w' := by
  have H := Lib.hid (refOf_any a W)
  rw [show (findO fun e => e.code == a) = byO a from rfl] at H
  generalize byO a = R at *
  obtain ⟨⟨c, s, q⟩, ok⟩ := R
  simp only [Ent.val, Ent.cells] at H
  have hf := one_field c q s
  go_enter Try.func52, Try.ntmps52
  go_wp2_with fail
  refine H.out.mono ?_
  rintro e w2 ⟨rfl, hx2⟩
  go_wp2
  go_ret
  exact ⟨ret_bool (by simp), hx2⟩
theorem findO_mem (p : Ent → Bool) : (findO p).1 ∈ noEnt :: ones := by
  unfold findO
  cases h : ones.find? p with
  | none => exact List.mem_cons_self
  | some e => exact List.mem_cons_of_mem _ (List.mem_of_find?_eq_some h)
def owx (e : Ent) : Bool := (e.cls == 3 || e.cls == 4) && e.name.toList.getLast? == some 120
set_option maxHeartbeats 4000000 in
set_option maxRecDepth 100000 in
theorem refWithX_any (a : Int) (W : World) :
    Calls Try.prog 72 #[.int .u16 a] W fun e w' => e = .returned (.bool (owx (byO a).1)) ∧ Ext W w' := by
  have H := Lib.hid (refOf_any a W)
  rw [show (findO fun e => e.code == a) = byO a from rfl] at H
  have hm : (byO a).1 ∈ noEnt :: ones := findO_mem _
  generalize (byO a).1 = E at *
  simp only [noEnt, ones, List.mem_cons, List.not_mem_nil, or_false] at hm
  rcases hm with rfl | rfl | rfl | rfl | rfl | rfl | rfl | rfl | rfl | rfl | rfl | rfl | rfl | rfl | rfl | rfl | rfl | rfl | rfl | rfl | rfl | rfl | rfl | rfl | rfl | rfl | rfl | rfl | rfl | rfl | rfl | rfl | rfl | rfl | rfl | rfl | rfl | rfl | rfl | rfl | rfl | rfl
  all_goals
    simp only [Ent.val, Ent.cells] at H
    go_enter Try.func72, Try.ntmps72
    go_wp2_with fail
    refine H.out.mono ?_
    rintro e w2 ⟨rfl, hx2⟩
    go_wp2
    go_ret
    exact ⟨ret_bool (by kernel_rfl), hx2.alloc _⟩
end Go.Proofs.Ytkejcfbhikpibaa

namespace Go.Proofs.Ytkejcfbhikpibaa
open Go.RowKit Go.ChangeShapes Go.WideShapes
set_option linter.unusedVariables false

theorem agree {β : Type} [BEq β] [LawfulBEq β] (f : Ent → β) (b : β) (h1 : ∀ e ∈ ents, ones.find? (fun x => f x == f e) = some e) (h2 : ∀ e ∈ ones, e ∈ ents) : findE (fun e => f e == b) = findO (fun e => f e == b) := by
  unfold findE findO
  cases h : ents.find? (fun e => f e == b) with
  | some e =>
    have hb : f e = b := by have := List.find?_some h; simpa using this
    subst hb
    rw [h1 e (List.mem_of_find?_eq_some h)]
  | none =>
    cases h' : ones.find? (fun e => f e == b) with
    | none => rfl
    | some e' =>
      have := List.find?_some h'
      have hm := h2 e' (List.mem_of_find?_eq_some h')
      exact absurd this (List.find?_eq_none.1 h e' hm)
theorem ones_sub : ∀ e ∈ ones, e ∈ ents := by
  intro e he
  simp only [ones, List.mem_cons, List.not_mem_nil, or_false] at he
  rcases he with rfl | rfl | rfl | rfl | rfl | rfl | rfl | rfl | rfl | rfl | rfl | rfl | rfl | rfl | rfl | rfl | rfl | rfl | rfl | rfl | rfl | rfl | rfl | rfl | rfl | rfl | rfl | rfl | rfl | rfl | rfl | rfl | rfl | rfl | rfl | rfl | rfl | rfl | rfl | rfl | rfl
  · exact List.mem_of_getElem? (i := 0) (by kernel_rfl)
  · exact List.mem_of_getElem? (i := 1) (by kernel_rfl)
  · exact List.mem_of_getElem? (i := 2) (by kernel_rfl)
  · exact List.mem_of_getElem? (i := 3) (by kernel_rfl)
  · exact List.mem_of_getElem? (i := 4) (by kernel_rfl)
  · exact List.mem_of_getElem? (i := 5) (by kernel_rfl)
  · exact List.mem_of_getElem? (i := 6) (by kernel_rfl)
  · exact List.mem_of_getElem? (i := 7) (by kernel_rfl)
  · exact List.mem_of_getElem? (i := 8) (by kernel_rfl)
  · exact List.mem_of_getElem? (i := 27) (by kernel_rfl)
  · exact List.mem_of_getElem? (i := 28) (by kernel_rfl)
  · exact List.mem_of_getElem? (i := 37) (by kernel_rfl)
  · exact List.mem_of_getElem? (i := 38) (by kernel_rfl)
  · exact List.mem_of_getElem? (i := 39) (by kernel_rfl)
  · exact List.mem_of_getElem? (i := 40) (by kernel_rfl)
  · exact List.mem_of_getElem? (i := 9) (by kernel_rfl)
  · exact List.mem_of_getElem? (i := 18) (by kernel_rfl)
  · exact List.mem_of_getElem? (i := 10) (by kernel_rfl)
  · exact List.mem_of_getElem? (i := 19) (by kernel_rfl)
  · exact List.mem_of_getElem? (i := 11) (by kernel_rfl)
  · exact List.mem_of_getElem? (i := 20) (by kernel_rfl)
  · exact List.mem_of_getElem? (i := 12) (by kernel_rfl)
  · exact List.mem_of_getElem? (i := 21) (by kernel_rfl)
  · exact List.mem_of_getElem? (i := 13) (by kernel_rfl)
  · exact List.mem_of_getElem? (i := 22) (by kernel_rfl)
  · exact List.mem_of_getElem? (i := 14) (by kernel_rfl)
  · exact List.mem_of_getElem? (i := 23) (by kernel_rfl)
  · exact List.mem_of_getElem? (i := 15) (by kernel_rfl)
  · exact List.mem_of_getElem? (i := 24) (by kernel_rfl)
  · exact List.mem_of_getElem? (i := 16) (by kernel_rfl)
  · exact List.mem_of_getElem? (i := 25) (by kernel_rfl)
  · exact List.mem_of_getElem? (i := 17) (by kernel_rfl)
  · exact List.mem_of_getElem? (i := 26) (by kernel_rfl)
  · exact List.mem_of_getElem? (i := 29) (by kernel_rfl)
  · exact List.mem_of_getElem? (i := 33) (by kernel_rfl)
  · exact List.mem_of_getElem? (i := 30) (by kernel_rfl)
  · exact List.mem_of_getElem? (i := 34) (by kernel_rfl)
  · exact List.mem_of_getElem? (i := 31) (by kernel_rfl)
  · exact List.mem_of_getElem? (i := 35) (by kernel_rfl)
  · exact List.mem_of_getElem? (i := 32) (by kernel_rfl)
  · exact List.mem_of_getElem? (i := 36) (by kernel_rfl)
theorem code_key : ∀ e ∈ ents, ones.find? (fun x => x.code == e.code) = some e := by
  intro e he
  simp only [ents, List.mem_cons, List.not_mem_nil, or_false] at he
  rcases he with rfl | rfl | rfl | rfl | rfl | rfl | rfl | rfl | rfl | rfl | rfl | rfl | rfl | rfl | rfl | rfl | rfl | rfl | rfl | rfl | rfl | rfl | rfl | rfl | rfl | rfl | rfl | rfl | rfl | rfl | rfl | rfl | rfl | rfl | rfl | rfl | rfl | rfl | rfl | rfl | rfl
  all_goals kernel_rfl
theorem name_key : ∀ e ∈ ents, ones.find? (fun x => x.name.toList == e.name.toList) = some e := by
  intro e he
  simp only [ents, List.mem_cons, List.not_mem_nil, or_false] at he
  rcases he with rfl | rfl | rfl | rfl | rfl | rfl | rfl | rfl | rfl | rfl | rfl | rfl | rfl | rfl | rfl | rfl | rfl | rfl | rfl | rfl | rfl | rfl | rfl | rfl | rfl | rfl | rfl | rfl | rfl | rfl | rfl | rfl | rfl | rfl | rfl | rfl | rfl | rfl | rfl | rfl | rfl
  all_goals kernel_rfl
theorem by_same (a : Int) : byE a = byO a := agree (fun e => e.code) a code_key ones_sub
theorem nm_same (t : ByteArray) : nmE t = nmO t := agree (fun e => e.name.toList) t.toList name_key ones_sub
theorem by_cases_ (a : Int) : byE a = (noEnt, false) ∨ ∃ e ∈ ents, a = e.code ∧ byE a = (e, true) := by
  unfold byE findE
  cases h : ents.find? (fun e => e.code == a) with
  | none => exact .inl rfl
  | some e =>
    have := List.find?_some h
    exact .inr ⟨e, List.mem_of_find?_eq_some h, by simpa using (beq_iff_eq.1 this).symm, rfl⟩
theorem ent_facts : ∀ e ∈ ents, (!(e.name.toList == [])) = true ∧ (true && (e.cls == 3 || e.cls == 4) && (bits .and .u16 e.code 8 != 0)) = owx e := by
  intro e he
  simp only [ents, List.mem_cons, List.not_mem_nil, or_false] at he
  rcases he with rfl | rfl | rfl | rfl | rfl | rfl | rfl | rfl | rfl | rfl | rfl | rfl | rfl | rfl | rfl | rfl | rfl | rfl | rfl | rfl | rfl | rfl | rfl | rfl | rfl | rfl | rfl | rfl | rfl | rfl | rfl | rfl | rfl | rfl | rfl | rfl | rfl | rfl | rfl | rfl | rfl
  all_goals exact ⟨by kernel_rfl, by kernel_rfl⟩
theorem known_same (a : Int) : (!((byO a).1.name.toList == [])) = (byE a).2 := by
  rw [← by_same]
  rcases by_cases_ a with h | ⟨e, he, rfl, h⟩
  · rw [h]; kernel_rfl
  · rw [h]; exact (ent_facts e he).1
theorem withX_same (a : Int) : takesX a = owx (byO a).1 := by
  rw [← by_same]
  unfold takesX
  rcases by_cases_ a with h | ⟨e, he, rfl, h⟩
  · rw [h]; kernel_rfl
  · rw [h]; exact (ent_facts e he).2
end Go.Proofs.Ytkejcfbhikpibaa
