import Derived.Test.YtlicndonhmcmmaaInsn2
namespace Go.Proofs.Ytlicndonhmcmmaa
open Go.RowKit Go.ChangeShapes Go.WideShapes
set_option linter.unusedVariables false

theorem nm1 (c q : Int) (s : ByteArray) (g : Nat) (t : ByteArray) (W : World) (hc : W.cell? ⟨g, 0, none⟩ = some (.string t)) :
    Calls Try.prog 81 #[.agg #[.int .u16 c, .string s, .int .u8 q], .pointer (some ⟨g, 0, none⟩)] W fun e w' => e = .returned (.bool (s.toList == t.toList)) ∧ Ext W w' := by
  have hlt : g < W.heap.size := block_lt_of_cell hc
  have hne : g ≠ W.heap.size := Nat.ne_of_lt hlt
  have hc2 : ∀ o, (W.alloc o).cell? ⟨g, 0, none⟩ = some (.string t) := fun o => ((Ext.refl W).alloc o).cell hc
  go_enter Try.func81, Try.ntmps81
  go_wp2
  go_ret
  first | exact ⟨rfl, (Ext.refl W).alloc _⟩ | exact ⟨rfl, Ext.refl W⟩

set_option maxRecDepth 100000 in
theorem find_name (g : Nat) (t : ByteArray) (W : World) (hc : W.cell? ⟨g, 0, none⟩ = some (.string t)) :
    Calls Try.prog 80 #[.func (.func 81) #[] #[.pointer (some ⟨g, 0, none⟩)]] W fun e w' => e = .returned (.tuple #[(findE fun e => e.name.toList == t.toList).1.val, .bool (findE fun e => e.name.toList == t.toList).2]) ∧ Ext W w' := by
  have HI := Lib.hid (fun (k : Nat) (hk : k < 41) (W : World) => ent_index k hk W)
  have HE := Lib.hid (fun W : World => entries_any W)
  have HF := Lib.hid (fun (k : Nat) (hk : k < 41) => findE_at (p := fun e => e.name.toList == t.toList) hk)
  have HN := Lib.hid (findE_no (p := fun e => e.name.toList == t.toList))
  generalize entV = V at *
  generalize findE (fun e => e.name.toList == t.toList) = R at *
  have hgs := block_lt_of_cell hc
  go_enter Try.func80, Try.ntmps80
  go_wp2_with fail
  have hx0 := (Ext.refl W).alloc (.cells #[.int .u16 0, .string ⟨#[]⟩, .int .u8 0] 116)
  have B0 := Blk.new W 116 #[.int .u16 0, .string ⟨#[]⟩, .int .u8 0]
  refine (HE.out _).mono ?_
  rintro e w1 ⟨rfl, hx1⟩
  replace hx0 := hx0.trans hx1
  replace B0 := B0.ext hx1
  clear hx1
  go_wp2_with fail
  go_loopw [7] (fun i wr => ∃ k : Nat, k ≤ 41 ∧ i = .int .i64 k ∧ (∀ j, j < k → ((ents.getD j noEnt).name.toList == t.toList) = false) ∧ Ext W wr ∧ Blk wr W.heap.size 116 #[.int .u16 0, .string ⟨#[]⟩, .int .u8 0]) (fun i _ => 41 - (intOf i).toNat)
  case atStart => exact ⟨0, by decide, rfl, fun j hj => absurd hj (by omega), hx0, B0⟩
  case round =>
    clear hx0 B0
    obtain ⟨k, hk, rfl, hno, hx, B0⟩ := hrel
    by_cases hlt : k < 41
    · have hidx : ∀ W, (Instr.index 125 V (.int .i64 k)).run Try.prog W = .ok (.agg #[.int .u16 (ents.getD k noEnt).code, .string (ents.getD k noEnt).name, .int .u8 (ents.getD k noEnt).cls]) W := fun W => HI.out k hlt W
      have hf := Lib.hid (HF.out k hlt hno)
      have hno' : ∀ (h : ((ents.getD k noEnt).name.toList == t.toList) = false) j, j < k + 1 → ((ents.getD j noEnt).name.toList == t.toList) = false := fun h j hj => by
        rcases Nat.lt_succ_iff_lt_or_eq.1 hj with h1 | rfl
        · exact hno j h1
        · exact h
      generalize ents.getD k noEnt = E at *
      obtain ⟨c, s, q⟩ := E
      have hc2 := hx.cell hc
      dsimp only at hidx hf hno'
      by_cases h : (s.toList == t.toList) = true
      · have hR := hf.out h
        subst hR
        clear hno hno' hf HF HN HI HE
        go_wp2_with fail
        refine (nm1 c q s g t _ (((Ext.refl wr).alloc _).cell hc2)).mono ?_
        rintro e w2 ⟨rfl, hx2⟩
        have hx3 := (hx.alloc (.cells #[.int .u16 c, .string s, .int .u8 q] 116)).trans hx2
        have B2 := (Blk.new wr 116 #[.int .u16 c, .string s, .int .u8 q]).ext hx2
        replace B0 := (B0.alloc (.cells #[.int .u16 c, .string s, .int .u8 q] 116)).ext hx2
        rw [h]
        go_wp2_with (first | (refine wpList_load_blk rfl 116 (.tmp 5) rfl _ _ _ _ rfl B2 Try.underlying116 rfl (by kernel_rfl) ?_) | (refine wpList_store_all rfl 116 (.tmp 2) (.tmp 13) rfl _ _ _ _ rfl rfl B0 rfl (by kernel_rfl) (by simp [Value.oneCell']) ?_; intro wz Bz hgz))
        exact bodyPost_ret (results_blk2 rfl _ _ _ _ _ _ rfl Bz Try.underlying116 rfl (by kernel_rfl)) rfl ⟨rfl, hx3.grown hgz (fun k e => by cases e; exact Nat.le_refl _)⟩
      · have h : (s.toList == t.toList) = false := by simpa using h
        replace hno' := hno' h
        clear hno hf
        go_wp2_with fail
        refine (nm1 c q s g t _ (((Ext.refl wr).alloc _).cell hc2)).mono ?_
        rintro e w2 ⟨rfl, hx2⟩
        have hx3 := (hx.alloc (.cells #[.int .u16 c, .string s, .int .u8 q] 116)).trans hx2
        replace B0 := (B0.alloc (.cells #[.int .u16 c, .string s, .int .u8 q] 116)).ext hx2
        rw [h]
        go_wp2
        go_roundw
        case rel => exact ⟨k + 1, by omega, by go_num, hno', hx3, B0⟩
        case measure => simp [intOf]; omega
    · obtain rfl : k = 41 := by omega
      have hR := HN.out hno
      subst hR
      clear hno HF HN HI HE
      go_wp2_with (refine wpList_store_all rfl 116 (.tmp 2) (.tmp 15) rfl _ _ _ _ rfl rfl B0 rfl (by kernel_rfl) (by simp [Value.oneCell']) ?_; intro wz Bz hgz)
      exact bodyPost_ret (results_blk2 rfl _ _ _ _ _ _ rfl Bz Try.underlying116 rfl (by kernel_rfl)) rfl ⟨rfl, hx.grown hgz (fun k e => by cases e; exact Nat.le_refl _)⟩

set_option maxRecDepth 100000 in
theorem by_any (a : Int) (W : World) :
    Calls Try.prog 82 #[.int .u16 a] W fun e w' => e = .returned (.tuple #[(findE fun e => e.code == a).1.val, .bool (findE fun e => e.code == a).2]) ∧ Ext W w' := by
  have H := Lib.hid (fun (g : Nat) (W : World) (hc : W.cell? ⟨g, 0, none⟩ = some (.int .u16 a)) => find_code g a W hc)
  generalize findE (fun e => e.code == a) = R at *
  obtain ⟨⟨c, s, q⟩, ok⟩ := R
  go_enter Try.func82, Try.ntmps82
  go_wp2_with fail
  have hx0 := ((Ext.refl W).alloc (.cells #[.int .u16 a] 25)).alloc (.cells #[.int .u16 0, .string ⟨#[]⟩, .int .u8 0] 116)
  have B0 : Blk ((W.alloc (.cells #[.int .u16 a] 25)).alloc (.cells #[.int .u16 0, .string ⟨#[]⟩, .int .u8 0] 116)) (W.heap.size + 1) 116 #[.int .u16 0, .string ⟨#[]⟩, .int .u8 0] := Blk.new_ (by simp)
  have B1 := (Blk.new W 25 #[.int .u16 a]).alloc (.cells #[.int .u16 0, .string ⟨#[]⟩, .int .u8 0] 116)
  refine (H.out W.heap.size _ (by rw [B1.cell]; rfl)).mono ?_
  rintro e w2 ⟨rfl, hx2⟩
  replace B0 := B0.ext hx2
  go_wp2_with (refine wpList_store_all rfl 116 (.tmp 2) (.tmp _) rfl _ _ _ _ rfl rfl B0 rfl (by kernel_rfl) (by simp [Value.oneCell', Ent.cells]) ?_; intro wz Bz hgz)
  exact bodyPost_ret (results_blk2 rfl _ _ _ _ _ _ rfl Bz Try.underlying116 rfl (by kernel_rfl)) rfl ⟨rfl, (hx0.trans hx2).grown hgz (fun k e => by cases e; omega)⟩
end Go.Proofs.Ytlicndonhmcmmaa
