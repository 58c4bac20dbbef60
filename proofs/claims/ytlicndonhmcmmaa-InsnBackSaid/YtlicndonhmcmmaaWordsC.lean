import Derived.Test.YtlicndonhmcmmaaWordsB
namespace Go.Proofs.Ytlicndonhmcmmaa
open Go.RowKit
set_option linter.unusedVariables false

theorem refGet2_cells (x0 x1 : Int) (w : World) (b o n c at_ : Nat) (h : at_ + 2 ≤ n) (hn : n ≤ 1000000)
    (g0 : 0 ≤ x0 ∧ x0 < 256) (g1 : 0 ≤ x1 ∧ x1 < 256)
    (c0 : w.cell? ⟨b, o + at_, none⟩ = some (.int .u8 x0)) (c1 : w.cell? ⟨b, o + (at_ + 1), none⟩ = some (.int .u8 x1)) :
    Calls Try.prog 31 #[.slice (some ⟨b, o, none⟩) n c, .int .i64 at_, .int .i64 2] w fun e w' => e = .returned (.tuple #[.int .u64 (leN [x0, x1]), .bool true]) ∧ w = w' := by
  have d1 : decide ((at_ : Int) < 0) = false := by simp
  have d0 : decide ((n : Int) < 2) = false := by simp; omega
  have d2 : decide ((n : Int) - 2 < (at_ : Int)) = false := by simp; omega
  go_enter Try.func31, Try.ntmps31
  go_wp2
  go_rounds 3
  go_ret2
  refine ⟨?_, rfl⟩
  simp only [leN, Array.getD_eq_getD_getElem?, List.getElem?_toArray, List.getElem?_cons_succ, List.getElem?_cons_zero, Option.getD_some]
  have e : ∀ a b : Int, a = b → Ending.returned (.tuple #[Value.int .u64 a, .bool true]) = .returned (.tuple #[Value.int .u64 b, .bool true]) := fun a b h => by rw [h]
  exact e _ _ (by omega)
theorem refGet2_ok (A : Option Addr) (n c at_ : Nat) (bs : List Int) (w : World) (hn : bs.length = n) (hb : n ≤ 1000000) (hB : Byt bs) (hM : InM w A (nums .u8 bs)) (h : at_ + 2 ≤ n) :
    Calls Try.prog 31 #[.slice A n c, .int .i64 at_, .int .i64 2] w fun e w' => e = .returned (.tuple #[.int .u64 (getB bs at_ 2), .bool true]) ∧ w = w' := by
  obtain ⟨b, o, rfl, _, k0⟩ := hM.num (k := at_) (by omega)
  have hc : ∀ i (hi : at_ + i < bs.length), w.cell? ⟨b, o + (at_ + i), none⟩ = some (.int .u8 bs[at_ + i]) := fun i hi => hM.cell (nums_at hi)
  have e : getB bs at_ 2 = leN [bs[at_], bs[at_ + 1]] := by
    unfold getB
    rw [seg_succ (by omega), seg_succ (by omega), List.take_zero]
  rw [e]
  exact refGet2_cells _ _ w b o n c at_ h hb (byt_at hB _) (byt_at hB _) k0 (hc 1 (by omega))
theorem refGet2_no (A : Option Addr) (n c : Nat) (a : Int) (w : World) (hb : n ≤ 1000000) (h : a < 0 ∨ (n : Int) - 2 < a) :
    Calls Try.prog 31 #[.slice A n c, .int .i64 a, .int .i64 2] w fun e w' => e = .returned (.tuple #[.int .u64 0, .bool false]) ∧ w = w' := by
  by_cases h0 : a < 0
  · have d0 : decide (a < 0) = true := by simp; omega
    clear h
    go_enter Try.func31, Try.ntmps31
    go_wp2
    go_ret2
    exact ⟨rfl, rfl⟩
  · have d1 : decide (a < 0) = false := by simp; omega
    by_cases h2 : (n : Int) < 2
    · have d0 : decide ((n : Int) < 2) = true := by simp; omega
      clear h
      go_enter Try.func31, Try.ntmps31
      go_wp2
      go_ret2
      exact ⟨rfl, rfl⟩
    · have d0 : decide ((n : Int) < 2) = false := by simp; omega
      have d2 : decide ((n : Int) - 2 < a) = true := by simp; omega
      clear h
      go_enter Try.func31, Try.ntmps31
      go_wp2
      go_ret2
      exact ⟨rfl, rfl⟩
theorem refGet4_cells (x0 x1 x2 x3 : Int) (w : World) (b o n c at_ : Nat) (h : at_ + 4 ≤ n) (hn : n ≤ 1000000)
    (g0 : 0 ≤ x0 ∧ x0 < 256) (g1 : 0 ≤ x1 ∧ x1 < 256) (g2 : 0 ≤ x2 ∧ x2 < 256) (g3 : 0 ≤ x3 ∧ x3 < 256)
    (c0 : w.cell? ⟨b, o + at_, none⟩ = some (.int .u8 x0)) (c1 : w.cell? ⟨b, o + (at_ + 1), none⟩ = some (.int .u8 x1)) (c2 : w.cell? ⟨b, o + (at_ + 2), none⟩ = some (.int .u8 x2)) (c3 : w.cell? ⟨b, o + (at_ + 3), none⟩ = some (.int .u8 x3)) :
    Calls Try.prog 31 #[.slice (some ⟨b, o, none⟩) n c, .int .i64 at_, .int .i64 4] w fun e w' => e = .returned (.tuple #[.int .u64 (leN [x0, x1, x2, x3]), .bool true]) ∧ w = w' := by
  have d1 : decide ((at_ : Int) < 0) = false := by simp
  have d0 : decide ((n : Int) < 4) = false := by simp; omega
  have d2 : decide ((n : Int) - 4 < (at_ : Int)) = false := by simp; omega
  go_enter Try.func31, Try.ntmps31
  go_wp2
  go_rounds 5
  go_ret2
  refine ⟨?_, rfl⟩
  simp only [leN, Array.getD_eq_getD_getElem?, List.getElem?_toArray, List.getElem?_cons_succ, List.getElem?_cons_zero, Option.getD_some]
  have e : ∀ a b : Int, a = b → Ending.returned (.tuple #[Value.int .u64 a, .bool true]) = .returned (.tuple #[Value.int .u64 b, .bool true]) := fun a b h => by rw [h]
  exact e _ _ (by omega)
theorem refGet4_ok (A : Option Addr) (n c at_ : Nat) (bs : List Int) (w : World) (hn : bs.length = n) (hb : n ≤ 1000000) (hB : Byt bs) (hM : InM w A (nums .u8 bs)) (h : at_ + 4 ≤ n) :
    Calls Try.prog 31 #[.slice A n c, .int .i64 at_, .int .i64 4] w fun e w' => e = .returned (.tuple #[.int .u64 (getB bs at_ 4), .bool true]) ∧ w = w' := by
  obtain ⟨b, o, rfl, _, k0⟩ := hM.num (k := at_) (by omega)
  have hc : ∀ i (hi : at_ + i < bs.length), w.cell? ⟨b, o + (at_ + i), none⟩ = some (.int .u8 bs[at_ + i]) := fun i hi => hM.cell (nums_at hi)
  have e : getB bs at_ 4 = leN [bs[at_], bs[at_ + 1], bs[at_ + 2], bs[at_ + 3]] := by
    unfold getB
    rw [seg_succ (by omega), seg_succ (by omega), seg_succ (by omega), seg_succ (by omega), List.take_zero]
  rw [e]
  exact refGet4_cells _ _ _ _ w b o n c at_ h hb (byt_at hB _) (byt_at hB _) (byt_at hB _) (byt_at hB _) k0 (hc 1 (by omega)) (hc 2 (by omega)) (hc 3 (by omega))
theorem refGet4_no (A : Option Addr) (n c : Nat) (a : Int) (w : World) (hb : n ≤ 1000000) (h : a < 0 ∨ (n : Int) - 4 < a) :
    Calls Try.prog 31 #[.slice A n c, .int .i64 a, .int .i64 4] w fun e w' => e = .returned (.tuple #[.int .u64 0, .bool false]) ∧ w = w' := by
  by_cases h0 : a < 0
  · have d0 : decide (a < 0) = true := by simp; omega
    clear h
    go_enter Try.func31, Try.ntmps31
    go_wp2
    go_ret2
    exact ⟨rfl, rfl⟩
  · have d1 : decide (a < 0) = false := by simp; omega
    by_cases h2 : (n : Int) < 4
    · have d0 : decide ((n : Int) < 4) = true := by simp; omega
      clear h
      go_enter Try.func31, Try.ntmps31
      go_wp2
      go_ret2
      exact ⟨rfl, rfl⟩
    · have d0 : decide ((n : Int) < 4) = false := by simp; omega
      have d2 : decide ((n : Int) - 4 < a) = true := by simp; omega
      clear h
      go_enter Try.func31, Try.ntmps31
      go_wp2
      go_ret2
      exact ⟨rfl, rfl⟩
theorem refGet8_cells (x0 x1 x2 x3 x4 x5 x6 x7 : Int) (w : World) (b o n c at_ : Nat) (h : at_ + 8 ≤ n) (hn : n ≤ 1000000)
    (g0 : 0 ≤ x0 ∧ x0 < 256) (g1 : 0 ≤ x1 ∧ x1 < 256) (g2 : 0 ≤ x2 ∧ x2 < 256) (g3 : 0 ≤ x3 ∧ x3 < 256) (g4 : 0 ≤ x4 ∧ x4 < 256) (g5 : 0 ≤ x5 ∧ x5 < 256) (g6 : 0 ≤ x6 ∧ x6 < 256) (g7 : 0 ≤ x7 ∧ x7 < 256)
    (c0 : w.cell? ⟨b, o + at_, none⟩ = some (.int .u8 x0)) (c1 : w.cell? ⟨b, o + (at_ + 1), none⟩ = some (.int .u8 x1)) (c2 : w.cell? ⟨b, o + (at_ + 2), none⟩ = some (.int .u8 x2)) (c3 : w.cell? ⟨b, o + (at_ + 3), none⟩ = some (.int .u8 x3)) (c4 : w.cell? ⟨b, o + (at_ + 4), none⟩ = some (.int .u8 x4)) (c5 : w.cell? ⟨b, o + (at_ + 5), none⟩ = some (.int .u8 x5)) (c6 : w.cell? ⟨b, o + (at_ + 6), none⟩ = some (.int .u8 x6)) (c7 : w.cell? ⟨b, o + (at_ + 7), none⟩ = some (.int .u8 x7)) :
    Calls Try.prog 31 #[.slice (some ⟨b, o, none⟩) n c, .int .i64 at_, .int .i64 8] w fun e w' => e = .returned (.tuple #[.int .u64 (leN [x0, x1, x2, x3, x4, x5, x6, x7]), .bool true]) ∧ w = w' := by
  have d1 : decide ((at_ : Int) < 0) = false := by simp
  have d0 : decide ((n : Int) < 8) = false := by simp; omega
  have d2 : decide ((n : Int) - 8 < (at_ : Int)) = false := by simp; omega
  go_enter Try.func31, Try.ntmps31
  go_wp2
  go_rounds 9
  go_ret2
  refine ⟨?_, rfl⟩
  simp only [leN, Array.getD_eq_getD_getElem?, List.getElem?_toArray, List.getElem?_cons_succ, List.getElem?_cons_zero, Option.getD_some]
  have e : ∀ a b : Int, a = b → Ending.returned (.tuple #[Value.int .u64 a, .bool true]) = .returned (.tuple #[Value.int .u64 b, .bool true]) := fun a b h => by rw [h]
  exact e _ _ (by omega)
theorem refGet8_ok (A : Option Addr) (n c at_ : Nat) (bs : List Int) (w : World) (hn : bs.length = n) (hb : n ≤ 1000000) (hB : Byt bs) (hM : InM w A (nums .u8 bs)) (h : at_ + 8 ≤ n) :
    Calls Try.prog 31 #[.slice A n c, .int .i64 at_, .int .i64 8] w fun e w' => e = .returned (.tuple #[.int .u64 (getB bs at_ 8), .bool true]) ∧ w = w' := by
  obtain ⟨b, o, rfl, _, k0⟩ := hM.num (k := at_) (by omega)
  have hc : ∀ i (hi : at_ + i < bs.length), w.cell? ⟨b, o + (at_ + i), none⟩ = some (.int .u8 bs[at_ + i]) := fun i hi => hM.cell (nums_at hi)
  have e : getB bs at_ 8 = leN [bs[at_], bs[at_ + 1], bs[at_ + 2], bs[at_ + 3], bs[at_ + 4], bs[at_ + 5], bs[at_ + 6], bs[at_ + 7]] := by
    unfold getB
    rw [seg_succ (by omega), seg_succ (by omega), seg_succ (by omega), seg_succ (by omega), seg_succ (by omega), seg_succ (by omega), seg_succ (by omega), seg_succ (by omega), List.take_zero]
  rw [e]
  exact refGet8_cells _ _ _ _ _ _ _ _ w b o n c at_ h hb (byt_at hB _) (byt_at hB _) (byt_at hB _) (byt_at hB _) (byt_at hB _) (byt_at hB _) (byt_at hB _) (byt_at hB _) k0 (hc 1 (by omega)) (hc 2 (by omega)) (hc 3 (by omega)) (hc 4 (by omega)) (hc 5 (by omega)) (hc 6 (by omega)) (hc 7 (by omega))
theorem refGet8_no (A : Option Addr) (n c : Nat) (a : Int) (w : World) (hb : n ≤ 1000000) (h : a < 0 ∨ (n : Int) - 8 < a) :
    Calls Try.prog 31 #[.slice A n c, .int .i64 a, .int .i64 8] w fun e w' => e = .returned (.tuple #[.int .u64 0, .bool false]) ∧ w = w' := by
  by_cases h0 : a < 0
  · have d0 : decide (a < 0) = true := by simp; omega
    clear h
    go_enter Try.func31, Try.ntmps31
    go_wp2
    go_ret2
    exact ⟨rfl, rfl⟩
  · have d1 : decide (a < 0) = false := by simp; omega
    by_cases h2 : (n : Int) < 8
    · have d0 : decide ((n : Int) < 8) = true := by simp; omega
      clear h
      go_enter Try.func31, Try.ntmps31
      go_wp2
      go_ret2
      exact ⟨rfl, rfl⟩
    · have d0 : decide ((n : Int) < 8) = false := by simp; omega
      have d2 : decide ((n : Int) - 8 < a) = true := by simp; omega
      clear h
      go_enter Try.func31, Try.ntmps31
      go_wp2
      go_ret2
      exact ⟨rfl, rfl⟩

/-- bytes.Equal, words.Same. -/
theorem strOf_inj : ∀ (xs ys : List Int), Byt xs → Byt ys → ((strOfNums xs).toList = (strOfNums ys).toList ↔ xs = ys) := by
  intro xs ys hx hy
  rw [Lib.strOfNums_toList, Lib.strOfNums_toList]
  constructor
  · intro h
    have h2 := congrArg (List.map fun u : UInt8 => (u.toNat : Int)) h
    have key : ∀ zs : List Int, Byt zs → (Lib.bytesOf zs).map (fun u : UInt8 => (u.toNat : Int)) = zs := fun zs hz => by
      unfold Lib.bytesOf
      rw [List.map_map]
      conv => rhs; rw [← List.map_id zs]
      refine List.map_congr_left fun z hz' => ?_
      have := hz z hz'
      simp only [Function.comp, id, UInt8.toNat_ofNat']
      omega
    rwa [key xs hx, key ys hy] at h2
  · rintro rfl
    rfl
theorem conv_run (A : Option Addr) (n c : Nat) (xs : List Int) (w : World) (hn : xs.length = n) (hM : InM w A (nums .u8 xs)) :
    (convert 23 9 (.slice A n c)).run Try.prog w = .ok (.string (strOfNums xs)) w := by
  rcases Nat.eq_zero_or_pos n with h0 | h0
  · subst h0
    obtain rfl : xs = [] := List.eq_nil_of_length_eq_zero hn
    exact run_convert_bytes_zero w 23 5 Try.underlying23 Try.underlying5 A c 9 Try.underlying9
  · obtain ⟨b, o, rfl, _⟩ := hM.some_ (by simpa [nums, hn] using h0)
    refine run_convert_bytes_arg (P := Try.prog) w 23 5 Try.underlying23 Try.underlying5 b o n c xs hn (fun i hi => ?_) 9 Try.underlying9
    rw [List.getD_eq_getElem?_getD, List.getElem?_eq_getElem (by omega)]
    exact hM.cell (nums_at _)
theorem wordsSame (A B : Option Addr) (n c m d : Nat) (xs ys : List Int) (w : World) (hn : xs.length = n) (hm : ys.length = m) (hx : Byt xs) (hy : Byt ys)
    (h1 : InM w A (nums .u8 xs)) (h2 : InM w B (nums .u8 ys)) :
    Calls Try.prog 40 #[.slice A n c, .slice B m d] w fun e w' => e = .returned (.bool (decide (xs = ys))) ∧ w = w' := by
  have c1 := conv_run A n c xs w hn h1
  have c2 := conv_run B m d ys w hm h2
  have hs := strOf_inj xs ys hx hy
  generalize strOfNums xs = s1 at *
  generalize strOfNums ys = s2 at *
  have HS := Lib.hid hs
  clear hs hn hm h1 h2
  go_enter Try.func40, Try.ntmps40
  go_wp2_with (go_at_call 75; go_in)
  go_ret
  refine ⟨ret_bool ?_, rfl⟩
  rw [Bool.eq_iff_iff, beq_iff_eq, decide_eq_true_iff]
  exact HS.out

theorem info_Grow : (Try.prog.info? 5).map (fun i => (i.zero, i.size, i.bytes)) = some (some (.int .u8 0), 1, 1) := info_u8
theorem grow_any (N : Nat) (w : World) (hN : N ≤ 1000000) :
    Calls Try.prog 85 #[.slice none 0 0, .int .i64 N] w fun e w' => ∃ A c, e = .returned (.slice A 0 c) ∧ w'.ownsRow w.heap.size 5 1 (.slice A 0 c) 0 [] ∧ Ext w w' := by
  obtain ⟨i0, hi, hz0, hz1, hz2⟩ := info_parts info_u8
  have d0 : decide ((N : Int) < 0) = false := by simp
  rcases Nat.eq_zero_or_pos N with rfl | hp
  · clear hi hz0 hz1 hz2
    go_enter Try.func85, Try.ntmps85
    go_wp2
    go_ret
    exact ⟨_, _, rfl, World.ownsRow_nil _ _ _ _, Ext.refl _⟩
  · have hr := Lib.hid (Lib.run_append_nil_zeros (P := Try.prog) w 23 3 23 5 i0 (.int .u8 0) .i64 .i64 Try.underlying23 Try.underlying3 hi hz0 N hp (by omega) (by omega) (by rw [hz2]; omega))
    have hcap := grownCap_ge w N 0 5
    have hmax := grownCap_le_maxLen w N 0 5 (by unfold maxLen; omega)
    clear hi hz0 hz1 hz2
    generalize grownCap w N 0 5 = C at *
    go_enter Try.func85, Try.ntmps85
    go_wp2_with (at_builtin; refine Lib.wpList_append_run _ rfl (.tmp 20) (.tmp 21) _ _ rfl _ _ rfl rfl _ _ hr.out ?_)
    go_ret
    refine ⟨_, _, rfl, ⟨by simp, .inr ⟨_, _, _, rfl, Nat.le_refl _, heap_alloc_new w.drew _, Nat.zero_le _, hmax, ?_, by simp⟩⟩, ((Ext.refl w).drew).alloc _⟩
    simp [size_zeroCells]
    omega

/-- A slice of bytes as a value, with what it holds. -/
structure Sl where
  A : Option Addr
  n : Nat
  c : Nat
  xs : List Int
def Sl.val (s : Sl) : Value := .slice s.A s.n s.c
def Sl.ok (w : World) (s : Sl) : Prop := s.xs.length = s.n ∧ InM w s.A (nums .u8 s.xs)
def tot : List Sl → Nat
  | [] => 0
  | s :: r => s.n + tot r
def flat : List Sl → List Int
  | [] => []
  | s :: r => s.xs ++ flat r
theorem tot_append (a b : List Sl) : tot (a ++ b) = tot a + tot b := by
  induction a with
  | nil => simp [tot]
  | cons s r ih => simp [tot, ih, Nat.add_assoc]
theorem flat_append (a b : List Sl) : flat (a ++ b) = flat a ++ flat b := by
  induction a with
  | nil => simp [flat]
  | cons s r ih => simp [flat, ih]
theorem flat_length (w : World) : ∀ (l : List Sl), (∀ s ∈ l, s.ok w) → (flat l).length = tot l
  | [], _ => rfl
  | s :: r, h => by
    simp only [flat, tot, List.length_append]
    rw [flat_length w r (fun x hx => h x (by simp [hx])), (h s (by simp)).1]
theorem tot_take_succ (l : List Sl) (k : Nat) (hk : k < l.length) : tot (l.take (k + 1)) = tot (l.take k) + l[k].n := by
  rw [List.take_succ_eq_append_getElem hk, tot_append]
  simp [tot]
theorem flat_take_succ (l : List Sl) (k : Nat) (hk : k < l.length) : flat (l.take (k + 1)) = flat (l.take k) ++ l[k].xs := by
  rw [List.take_succ_eq_append_getElem hk, flat_append]
  simp [flat]
theorem tot_take_le (l : List Sl) (k : Nat) : tot (l.take k) ≤ tot l := by
  conv => rhs; rw [← List.take_append_drop k l, tot_append]
  omega

theorem concat_any (L : Option Addr) (n c : Nat) (ls : List Sl) (w : World) (hn : ls.length = n) (hM : InM w L (ls.map Sl.val)) (hok : ∀ s ∈ ls, s.ok w) (hb : tot ls ≤ 1000000) (hb2 : n ≤ 1000000) :
    Calls Try.prog 76 #[.slice L n c] w fun e w' => ∃ A c', e = .returned (.slice A (tot ls) c') ∧ w'.ownsRow w.heap.size 5 1 (.slice A (tot ls) c') (tot ls) (nums .u8 (flat ls)) ∧ Ext w w' := by
  obtain ⟨i0, hi, hz0, hz1, hz2⟩ := info_parts info_u8
  have HI := Lib.hid hi; have HZ0 := Lib.hid hz0; have HZ1 := Lib.hid hz1; have HZ2 := Lib.hid hz2
  clear hi hz0 hz1 hz2
  have Hn := Lib.hid hn; clear hn
  go_enter Try.func76, Try.ntmps76
  go_wp2
  go_loop [3, 11] (fun sz i => ∃ k : Nat, k ≤ n ∧ i = .int .i64 k ∧ sz = .int .i64 (tot (ls.take k))) (fun _ i => n - (intOf i).toNat)
  case atStart => exact ⟨0, Nat.zero_le _, rfl, rfl⟩
  case round =>
    obtain ⟨k, hk, rfl, rfl⟩ := hrel
    have ht := tot_take_le ls k
    by_cases hlt : k < n
    · have hlt' : k < ls.length := by rw [Hn.out]; exact hlt
      obtain ⟨b1, o1, rfl, hb1, hc1⟩ := hM.at_ (k := k) (by rw [List.length_map]; exact hlt')
      have HS := Lib.hid (tot_take_succ ls k hlt')
      have ht2 := tot_take_le ls (k + 1)
      rw [HS.out] at ht2
      rw [List.getElem_map] at hc1
      generalize ls[k] = s at *
      obtain ⟨A, m, d, xs⟩ := s
      simp only [Sl.val] at hc1 HS ht2
      generalize tot (ls.take k) = T at *
      have hpos : ¬ ((T : Int) + (m : Int) < 0) := by omega
      clear hM hok
      go_wp2
      go_round
      case rel => exact ⟨k + 1, by omega, by go_num, by rw [HS.out]; go_num⟩
      case measure => simp [intOf]; omega
    · obtain rfl : k = n := by omega
      have e : ls.take k = ls := List.take_of_length_le (by rw [Hn.out]; omega)
      have E := Lib.hid e; clear e
      rw [E.out]
      clear E ht hlt hk
      generalize hT : tot ls = T at *
      have HT := Lib.hid hT; clear hT
      go_wp2_with (go_at_call 85; refine (grow_any T w hb).mono ?_; rintro e w1 ⟨A1, c1, rfl, hown1, hx1⟩)
      go_loopw [6, 27] (fun v i wr => ∃ (k : Nat) (A : Option Addr) (c' : Nat), k ≤ ls.length ∧ i = .int .i64 k ∧ v = .slice A (tot (ls.take k)) c' ∧ wr.ownsRow w.heap.size 5 1 (.slice A (tot (ls.take k)) c') (tot (ls.take k)) (nums .u8 (flat (ls.take k))) ∧ Ext w wr) (fun _ i _ => ls.length - (intOf i).toNat)
      case atStart => exact ⟨0, A1, c1, Nat.zero_le _, rfl, rfl, hown1, hx1⟩
      case round =>
        obtain ⟨j, A, c', hj, rfl, rfl, hown, hext⟩ := hrel
        rw [Hn.out] at hj
        by_cases hlt : j < k
        · have hlt' : j < ls.length := by rw [Hn.out]; exact hlt
          obtain ⟨b1, o1, rfl, hb1, hc1⟩ := hM.at_ (k := j) (by rw [List.length_map]; exact hlt')
          have HS := Lib.hid (tot_take_succ ls j hlt')
          have HF := Lib.hid (flat_take_succ ls j hlt')
          have ht2 := tot_take_le ls (j + 1)
          rw [HS.out, HT.out] at ht2
          have hc2 := hext.cell hc1
          rw [List.getElem_map] at hc2
          have hks := hok ls[j] (List.getElem_mem hlt')
          generalize ls[j] = s at *
          obtain ⟨B, m, d, xs⟩ := s
          obtain ⟨hlx, hmx⟩ := hks
          have hmx := hmx.ext hext
          simp only [Sl.val] at hc2 HS ht2 HF hlx hmx
          have HL := Lib.hid hlx; clear hlx hc1
          generalize tot (ls.take j) = U at *
          generalize hFl : flat (ls.take j) = F at *
          clear hFl hM hok
          go_wp2_with (at_builtin; refine wpList_app rfl (.tmp 31) (.tmp 32) _ rfl w.heap.size 5 i0 _ 1 1 Try.underlying23 HI.out HZ0.out HZ1.out HZ2.out rfl (by omega) A U c' (nums .u8 F) rfl hown B m d (nums .u8 xs) rfl (by rw [List.length_map, HL.out, Nat.mul_one]) hmx nums_one (by omega) (by omega) hext.size ?_; intro A2 c2 w2 hown2 hg2 hat2)
          have hx2 := hext.app hown (Nat.le_refl _) hg2
          go_wp2
          go_roundw
          case rel => exact ⟨j + 1, A2, c2, by omega, by go_num, by rw [HS.out], by rw [HS.out, HF.out]; simpa [nums] using hown2, hx2⟩
          case measure => simp [intOf]; omega
        · obtain rfl : j = k := by omega
          have e : ls.take j = ls := List.take_of_length_le (by rw [Hn.out]; omega)
          rw [e, HT.out] at hown
          have E := Lib.hid e; clear e
          rw [E.out, HT.out]
          go_wp2
          go_ret
          rw [HT.out]
          exact ⟨A, c', rfl, hown, hext⟩
theorem cat_any (L : Option Addr) (n c : Nat) (ls : List Sl) (w : World) (hn : ls.length = n) (hM : InM w L (ls.map Sl.val)) (hok : ∀ s ∈ ls, s.ok w) (hb : tot ls ≤ 1000000) (hb2 : n ≤ 1000000) :
    Calls Try.prog 45 #[.slice L n c] w fun e w' => ∃ A c', e = .returned (.slice A (tot ls) c') ∧ w'.ownsRow w.heap.size 5 1 (.slice A (tot ls) c') (tot ls) (nums .u8 (flat ls)) ∧ Ext w w' := by
  go_enter Try.func45, Try.ntmps45
  go_wp2_with (go_at_call 76; refine (concat_any L n c ls w hn hM hok hb hb2).mono ?_; rintro e w1 ⟨A1, c1, rfl, hown1, hx1⟩)
  go_ret
  exact ⟨A1, c1, rfl, hown1, hx1⟩

/-- vestibuleref01.Cat. -/
theorem refCat (A B : Option Addr) (n c m d : Nat) (xs ys : List Int) (w : World) (hn : xs.length = n) (hm : ys.length = m) (hb : n + m ≤ 1000000) (hA : InM w A (nums .u8 xs)) (hB : InM w B (nums .u8 ys)) :
    Calls Try.prog 44 #[.slice A n c, .slice B m d] w fun e w' => e = .returned (.slice (some ⟨w.heap.size, 0, none⟩) (n + m) (n + m)) ∧ Blk w' w.heap.size 5 (nums .u8 (xs ++ ys)).toArray ∧ Ext w w' := by
  have hmk := fun W => make_run1 (P := Try.prog) 23 5 (.int .u8 0) 1 Try.underlying23 info_u8 rfl .i64 .i64 (n + m) (n + m) (Nat.le_refl _) hb (by omega) W
  rw [Int.natCast_add] at hmk
  have hl : (nums .u8 xs).length = n := by rw [List.length_map]; exact hn
  have hl' : (nums .u8 ys).length = m := by rw [List.length_map]; exact hm
  have hl2 : (madeCells #[Value.int .u8 0] (n + m)).toList.length = n + m := by simp [size_madeCells]
  have Hl := Lib.hid hl; clear hl
  have Hl' := Lib.hid hl'; clear hl'
  have Hl2 := Lib.hid hl2; clear hl2
  have Hn := Lib.hid hn; clear hn
  have Hm := Lib.hid hm; clear hm
  have hb' : (n : Int) + (m : Int) ≤ 1000000 := by omega
  go_enter Try.func44, Try.ntmps44
  go_wp2_with (refine wpList_copy_splice rfl (.tmp 12) (.tmp 13) _ _ rfl 5 Try.underlying23 size_u8 _ A (n + m) (n + m) n c rfl rfl w.heap.size 0 (madeCells #[Value.int .u8 0] (n + m)).toList _ (by rw [Array.toArray_toList]; exact heap_alloc_new w _) (nums .u8 xs) (by rw [Hl.out]; simp) (fun h0 => ⟨rfl, ?_⟩) (by rw [Hl.out, Hl2.out]; omega) nums_one w.heap.size w ((Below.refl _ _).alloc (Nat.le_refl _) _) (Nat.le_refl _) ?_)
  · obtain ⟨b, off, rfl, _⟩ := hA.some_ h0
    exact ⟨_, rfl, fun j v hv => by rw [World.cell?_alloc_lt]; · exact hA.add hv
                                    · have := block_lt_of_cell (hA.add hv); exact this⟩
  · intro w2 hrow hbel
    have hB2 := hB.ext hbel
    generalize hS : splice (madeCells #[Value.int .u8 0] (n + m)).toList 0 (nums .u8 xs) = S at hrow
    have hSl : S.length = n + m := by rw [← hS, length_splice _ _ _ (by rw [Hl.out, Hl2.out]; omega), Hl2.out]
    have HSl := Lib.hid hSl; clear hSl
    have HS := Lib.hid hS; clear hS
    have H2 := Lib.hid hrow.out
    go_wp2_with (refine wpList_copy_splice rfl (.tmp 18) (.tmp 19) _ _ rfl 5 Try.underlying23 size_u8 _ B _ _ m d rfl rfl w.heap.size n S _ H2.out (nums .u8 ys) (by rw [Hl'.out]; simp) (fun h0 => ?_) (by rw [Hl'.out, HSl.out]; omega) nums_one w.heap.size w hbel (Nat.le_refl _) ?_)
    case refine_1.inl =>
      exfalso
      have e := Hl'.out
      simp only [List.length_map] at *
      omega
    case refine_1.inr =>
      have h0 : 0 < (nums .u8 ys).length := by assumption
      obtain ⟨b, off, rfl, _⟩ := hB2.some_ h0
      simp
      exact fun j a hj => hB2.add (by simp [hj])
    all_goals
      intro w3 hrow3 hbel3
      go_wp2
      go_ret
      refine ⟨?_, ?_, hbel3⟩
      · first | rfl | (have hm0 : m = 0 := by assumption
                       rw [hm0]; rfl)
      unfold Blk
      rw [hrow3.out]
      have e : splice S n (nums .u8 ys) = nums .u8 (xs ++ ys) := by
        rw [← HS.out]
        unfold splice
        have e1 := Hl.out
        have e2 := Hl'.out
        have e3 := Hl2.out
        rw [List.take_zero, List.nil_append, List.take_append_of_le_length (by omega), List.take_of_length_le (by omega), List.drop_eq_nil_of_le (by simp only [List.length_append, List.length_drop]; omega), List.append_nil]
        simp [nums]
      rw [e]
end Go.Proofs.Ytlicndonhmcmmaa
