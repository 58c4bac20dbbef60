import Derived.Test.YtlicndonhmcmmaaInsn5
namespace Go.Proofs.Ytlicndonhmcmmaa
open Go.RowKit Go.ChangeShapes Go.WideShapes
set_option linter.unusedVariables false

/-- The first entry of the document's list of which p holds. -/
def findO (p : Ent → Bool) : Ent × Bool := match ones.find? p with
  | some e => (e, true)
  | none => (noEnt, false)
theorem findO_at {p : Ent → Bool} {k : Nat} (hk : k < 41) (hno : ∀ j, j < k → p (ones.getD j noEnt) = false) (h : p (ones.getD k noEnt) = true) : findO p = (ones.getD k noEnt, true) := by
  have hl : ones.length = 41 := rfl
  have : ones.find? p = some (ones.getD k noEnt) := by
    rw [List.find?_eq_some_iff_getElem]
    refine ⟨h, k, by omega, ?_, fun j hj => ?_⟩
    · rw [List.getD_eq_getElem?_getD, List.getElem?_eq_getElem (by omega)]; rfl
    · have := hno j hj
      rw [List.getD_eq_getElem?_getD, List.getElem?_eq_getElem (show j < ones.length by omega)] at this
      simpa using this
  unfold findO
  rw [this]
theorem findO_no {p : Ent → Bool} (hno : ∀ j, j < 41 → p (ones.getD j noEnt) = false) : findO p = (noEnt, false) := by
  have hl : ones.length = 41 := rfl
  have : ones.find? p = none := by
    rw [List.find?_eq_none]
    intro x hx
    obtain ⟨j, hj, rfl⟩ := List.getElem_of_mem hx
    have := hno j (by omega)
    rw [List.getD_eq_getElem?_getD, List.getElem?_eq_getElem hj] at this
    simpa using this
  unfold findO
  rw [this]
theorem ones_cells : ∀ (k : Nat) (hk : k < 41), onesC[k * 3]? = some (.int .u16 (ones.getD k noEnt).code) ∧ onesC[k * 3 + 1]? = some (.string (ones.getD k noEnt).name) ∧ onesC[k * 3 + 2]? = some (.int .u8 (ones.getD k noEnt).cls)
  | 0, _ => ⟨by kernel_rfl, by kernel_rfl, by kernel_rfl⟩
  | 1, _ => ⟨by kernel_rfl, by kernel_rfl, by kernel_rfl⟩
  | 2, _ => ⟨by kernel_rfl, by kernel_rfl, by kernel_rfl⟩
  | 3, _ => ⟨by kernel_rfl, by kernel_rfl, by kernel_rfl⟩
  | 4, _ => ⟨by kernel_rfl, by kernel_rfl, by kernel_rfl⟩
  | 5, _ => ⟨by kernel_rfl, by kernel_rfl, by kernel_rfl⟩
  | 6, _ => ⟨by kernel_rfl, by kernel_rfl, by kernel_rfl⟩
  | 7, _ => ⟨by kernel_rfl, by kernel_rfl, by kernel_rfl⟩
  | 8, _ => ⟨by kernel_rfl, by kernel_rfl, by kernel_rfl⟩
  | 9, _ => ⟨by kernel_rfl, by kernel_rfl, by kernel_rfl⟩
  | 10, _ => ⟨by kernel_rfl, by kernel_rfl, by kernel_rfl⟩
  | 11, _ => ⟨by kernel_rfl, by kernel_rfl, by kernel_rfl⟩
  | 12, _ => ⟨by kernel_rfl, by kernel_rfl, by kernel_rfl⟩
  | 13, _ => ⟨by kernel_rfl, by kernel_rfl, by kernel_rfl⟩
  | 14, _ => ⟨by kernel_rfl, by kernel_rfl, by kernel_rfl⟩
  | 15, _ => ⟨by kernel_rfl, by kernel_rfl, by kernel_rfl⟩
  | 16, _ => ⟨by kernel_rfl, by kernel_rfl, by kernel_rfl⟩
  | 17, _ => ⟨by kernel_rfl, by kernel_rfl, by kernel_rfl⟩
  | 18, _ => ⟨by kernel_rfl, by kernel_rfl, by kernel_rfl⟩
  | 19, _ => ⟨by kernel_rfl, by kernel_rfl, by kernel_rfl⟩
  | 20, _ => ⟨by kernel_rfl, by kernel_rfl, by kernel_rfl⟩
  | 21, _ => ⟨by kernel_rfl, by kernel_rfl, by kernel_rfl⟩
  | 22, _ => ⟨by kernel_rfl, by kernel_rfl, by kernel_rfl⟩
  | 23, _ => ⟨by kernel_rfl, by kernel_rfl, by kernel_rfl⟩
  | 24, _ => ⟨by kernel_rfl, by kernel_rfl, by kernel_rfl⟩
  | 25, _ => ⟨by kernel_rfl, by kernel_rfl, by kernel_rfl⟩
  | 26, _ => ⟨by kernel_rfl, by kernel_rfl, by kernel_rfl⟩
  | 27, _ => ⟨by kernel_rfl, by kernel_rfl, by kernel_rfl⟩
  | 28, _ => ⟨by kernel_rfl, by kernel_rfl, by kernel_rfl⟩
  | 29, _ => ⟨by kernel_rfl, by kernel_rfl, by kernel_rfl⟩
  | 30, _ => ⟨by kernel_rfl, by kernel_rfl, by kernel_rfl⟩
  | 31, _ => ⟨by kernel_rfl, by kernel_rfl, by kernel_rfl⟩
  | 32, _ => ⟨by kernel_rfl, by kernel_rfl, by kernel_rfl⟩
  | 33, _ => ⟨by kernel_rfl, by kernel_rfl, by kernel_rfl⟩
  | 34, _ => ⟨by kernel_rfl, by kernel_rfl, by kernel_rfl⟩
  | 35, _ => ⟨by kernel_rfl, by kernel_rfl, by kernel_rfl⟩
  | 36, _ => ⟨by kernel_rfl, by kernel_rfl, by kernel_rfl⟩
  | 37, _ => ⟨by kernel_rfl, by kernel_rfl, by kernel_rfl⟩
  | 38, _ => ⟨by kernel_rfl, by kernel_rfl, by kernel_rfl⟩
  | 39, _ => ⟨by kernel_rfl, by kernel_rfl, by kernel_rfl⟩
  | 40, _ => ⟨by kernel_rfl, by kernel_rfl, by kernel_rfl⟩
  | n + 41, h => absurd h (by omega)
theorem inM_one {w : World} {b off : Nat} (hM : InM w (some ⟨b, off, none⟩) onesC) {k : Nat} (hk : k < 41) :
    w.cell? ⟨b, off + k * 3, none⟩ = some (.int .u16 (ones.getD k noEnt).code) ∧ w.cell? ⟨b, off + k * 3 + 1, none⟩ = some (.string (ones.getD k noEnt).name) ∧ w.cell? ⟨b, off + k * 3 + 2, none⟩ = some (.int .u8 (ones.getD k noEnt).cls) :=
  ⟨hM.cell (ones_cells k hk).1, hM.cell (ones_cells k hk).2.1, hM.cell (ones_cells k hk).2.2⟩

set_option maxRecDepth 100000 in
theorem refOf_any (a : Int) (W : World) :
    Calls Try.prog 56 #[.int .u16 a] W fun e w' => e = .returned (findO fun e => e.code == a).1.val ∧ Ext W w' := by
  have HA := Lib.hid (fun W : World => all_any W)
  have HI := Lib.hid (fun (w : World) (b off : Nat) (hM : InM w (some ⟨b, off, none⟩) onesC) (k : Nat) (hk : k < 41) => inM_one hM hk)
  have HF := Lib.hid (fun (k : Nat) (hk : k < 41) => findO_at (p := fun e => e.code == a) hk)
  have HN := Lib.hid (findO_no (p := fun e => e.code == a))
  have HL := Lib.hid (show 0 < onesC.length by decide)
  generalize onesC = L at *
  generalize findO (fun e => e.code == a) = R at *
  go_enter Try.func56, Try.ntmps56
  go_wp2_with fail
  have B0 := (Blk.new W 89 #[.int .u16 0, .string ⟨#[]⟩, .int .u8 0])
  have hx0 := (Ext.refl W).alloc (.cells #[.int .u16 0, .string ⟨#[]⟩, .int .u8 0] 89)
  refine (HA.out _).mono ?_
  rintro e w1 ⟨A, c', rfl, hM, hx1⟩
  obtain ⟨b, off, rfl, hb⟩ := hM.some_ HL.out
  replace hx0 := hx0.trans hx1
  replace B0 := B0.ext hx1
  clear hx1
  go_wp2_with fail
  go_loopw [4] (fun i wr => ∃ k : Nat, k ≤ 41 ∧ i = .int .i64 k ∧ (∀ j, j < k → ((ones.getD j noEnt).code == a) = false) ∧ wr = w1) (fun i _ => 41 - (intOf i).toNat)
  case atStart => exact ⟨0, by decide, rfl, fun j hj => absurd hj (by omega), rfl⟩
  case round =>
    obtain ⟨k, hk, rfl, hno, rfl⟩ := hrel
    by_cases hlt : k < 41
    · obtain ⟨m1, m2, m3⟩ := HI.out _ _ _ hM k hlt
      have hf := Lib.hid (HF.out k hlt hno)
      have hno' : ∀ (h : ((ones.getD k noEnt).code == a) = false) j, j < k + 1 → ((ones.getD j noEnt).code == a) = false := fun h j hj => by
        rcases Nat.lt_succ_iff_lt_or_eq.1 hj with h1 | rfl
        · exact hno j h1
        · exact h
      generalize ones.getD k noEnt = E at *
      obtain ⟨c, s, q⟩ := E
      dsimp only at hf hno' m1 m2 m3
      by_cases h : (c == a) = true
      · have hR := hf.out h
        subst hR
        clear hno hno' hf HF HN HI HA hM
        go_wp2_with (refine wpList_store_all rfl 89 (.tmp 2) (.tmp _) rfl _ _ _ _ rfl rfl B0 rfl (by kernel_rfl) (by simp [Value.oneCell']) ?_; intro wz Bz hgz)
        exact bodyPost_ret (results_blk1 rfl _ _ _ _ _ _ rfl Bz Try.underlying89 rfl (by kernel_rfl)) rfl ⟨rfl, hx0.grown hgz (fun k e => by cases e; exact Nat.le_refl _)⟩
      · have h : (c == a) = false := by simpa using h
        replace hno' := hno' h
        clear hno hf
        go_wp2
        go_roundw
        case rel => exact ⟨k + 1, by omega, by go_num, hno', trivial⟩
        case measure => simp [intOf]; omega
    · obtain rfl : k = 41 := by omega
      have hR := HN.out hno
      subst hR
      clear hno HF HN HI HA hM
      go_wp2_with (refine wpList_store_all rfl 89 (.tmp 2) (.tmp _) rfl _ _ _ _ rfl rfl B0 rfl (by kernel_rfl) (by simp [Value.oneCell']) ?_; intro wz Bz hgz)
      exact bodyPost_ret (results_blk1 rfl _ _ _ _ _ _ rfl Bz Try.underlying89 rfl (by kernel_rfl)) rfl ⟨rfl, hx0.grown hgz (fun k e => by cases e; exact Nat.le_refl _)⟩
set_option maxRecDepth 100000 in
theorem refCode_any (t : ByteArray) (W : World) :
    Calls Try.prog 58 #[.string t] W fun e w' => e = .returned (.tuple #[.int .u16 (findO fun e => e.name.toList == t.toList).1.code, .bool (findO fun e => e.name.toList == t.toList).2]) ∧ Ext W w' := by
  have HA := Lib.hid (fun W : World => all_any W)
  have HI := Lib.hid (fun (w : World) (b off : Nat) (hM : InM w (some ⟨b, off, none⟩) onesC) (k : Nat) (hk : k < 41) => inM_one hM hk)
  have HF := Lib.hid (fun (k : Nat) (hk : k < 41) => findO_at (p := fun e => e.name.toList == t.toList) hk)
  have HN := Lib.hid (findO_no (p := fun e => e.name.toList == t.toList))
  have HL := Lib.hid (show 0 < onesC.length by decide)
  generalize onesC = L at *
  generalize findO (fun e => e.name.toList == t.toList) = R at *
  go_enter Try.func58, Try.ntmps58
  go_wp2_with fail
  have hx0 := Ext.refl W
  refine (HA.out _).mono ?_
  rintro e w1 ⟨A, c', rfl, hM, hx1⟩
  obtain ⟨b, off, rfl, hb⟩ := hM.some_ HL.out
  replace hx0 := hx0.trans hx1
  clear hx1
  go_wp2_with fail
  go_loopw [5] (fun i wr => ∃ k : Nat, k ≤ 41 ∧ i = .int .i64 k ∧ (∀ j, j < k → ((ones.getD j noEnt).name.toList == t.toList) = false) ∧ wr = w1) (fun i _ => 41 - (intOf i).toNat)
  case atStart => exact ⟨0, by decide, rfl, fun j hj => absurd hj (by omega), rfl⟩
  case round =>
    obtain ⟨k, hk, rfl, hno, rfl⟩ := hrel
    by_cases hlt : k < 41
    · obtain ⟨m1, m2, m3⟩ := HI.out _ _ _ hM k hlt
      have hf := Lib.hid (HF.out k hlt hno)
      have hno' : ∀ (h : ((ones.getD k noEnt).name.toList == t.toList) = false) j, j < k + 1 → ((ones.getD j noEnt).name.toList == t.toList) = false := fun h j hj => by
        rcases Nat.lt_succ_iff_lt_or_eq.1 hj with h1 | rfl
        · exact hno j h1
        · exact h
      generalize ones.getD k noEnt = E at *
      obtain ⟨c, s, q⟩ := E
      dsimp only at hf hno' m1 m2 m3
      by_cases h : (s.toList == t.toList) = true
      · have hR := hf.out h
        subst hR
        clear hno hno' hf HF HN HI HA hM
        go_wp2
        go_ret2
        exact ⟨rfl, hx0⟩
      · have h : (s.toList == t.toList) = false := by simpa using h
        replace hno' := hno' h
        clear hno hf
        go_wp2
        go_roundw
        case rel => exact ⟨k + 1, by omega, by go_num, hno', trivial⟩
        case measure => simp [intOf]; omega
    · obtain rfl : k = 41 := by omega
      have hR := HN.out hno
      subst hR
      clear hno HF HN HI HA hM
      go_wp2
      go_ret2
      exact ⟨rfl, hx0⟩
end Go.Proofs.Ytlicndonhmcmmaa
