import Derived.Test.YtlicndonhmcmmaaDataEq
import Derived.Test.YtlicndonhmcmmaaBase3
namespace Go.Proofs.Ytlicndonhmcmmaa
open Go.RowKit Go.ChangeShapes Go.WideShapes
set_option linter.unusedVariables false

/-- The bytes of words, 4 each. -/
def prB : List Int → List Int
  | [] => []
  | x :: r => leB 4 x ++ prB r
theorem prB_append (a b : List Int) : prB (a ++ b) = prB a ++ prB b := by
  induction a with
  | nil => simp [prB]
  | cons s r ih => simp [prB, ih]
theorem prB_length : ∀ l : List Int, (prB l).length = 4 * l.length
  | [] => rfl
  | x :: r => by simp only [prB, List.length_append, leB_length, prB_length r, List.length_cons]; omega
theorem prB_byt : ∀ l : List Int, Byt (prB l)
  | [] => fun x hx => by simp [prB] at hx
  | x :: r => (leB_byt 4 x).append (prB_byt r)
theorem prB_succ (l : List Int) (k : Nat) (hk : k < l.length) : prB (l.take (k + 1)) = prB (l.take k) ++ leB 4 (l.getD k 0) := by
  rw [List.take_succ_eq_append_getElem hk, prB_append, List.getD_eq_getElem?_getD, List.getElem?_eq_getElem hk]
  simp [prB]
def Dat.bytes (d : Dat) : List Int := prB d.words
theorem words_u32 (d : Dat) (h : d.ok) : ∀ x ∈ d.words, U32 x := by
  have hlo : ∀ x, U32 (lo x) := fun x => by unfold lo U32; omega
  have hhi : ∀ x, U64 x → U32 (hi x) := fun x hx => by
    have := hx.1
    have h2 := hx.2
    unfold hi U32
    omega
  intro x hx
  simp only [Dat.words, List.mem_cons, List.not_mem_nil, or_false] at hx
  rcases hx with rfl | rfl | rfl | rfl | rfl | rfl | rfl | rfl | rfl | rfl | rfl | rfl | rfl | rfl | rfl | rfl
  all_goals first | exact h.nr | exact h.arch | exact hlo _ | exact hhi _ h.ip | exact hhi _ h.a0 | exact hhi _ h.a1 | exact hhi _ h.a2 | exact hhi _ h.a3 | exact hhi _ h.a4 | exact hhi _ h.a5
theorem wordAt_u32 (d : Dat) (h : d.ok) (k : Nat) : U32 (d.words.getD k 0) := by
  rw [List.getD_eq_getElem?_getD]
  rcases Nat.lt_or_ge k d.words.length with hk | hk
  · rw [List.getElem?_eq_getElem hk]
    exact words_u32 d h _ (List.getElem_mem hk)
  · rw [List.getElem?_eq_none hk]
    exact ⟨Int.le_refl _, by decide⟩

theorem tbl_index64 (d : Dat) (k : Nat) (hk : k < 16) (W : World) : (Instr.index 107 (tblV d) (.int .i64 k)).run Try.prog W = .ok (.int .u32 (d.words.getD k 0)) W := by
  obtain rfl | rfl | rfl | rfl | rfl | rfl | rfl | rfl | rfl | rfl | rfl | rfl | rfl | rfl | rfl | rfl : k = 0 ∨ k = 1 ∨ k = 2 ∨ k = 3 ∨ k = 4 ∨ k = 5 ∨ k = 6 ∨ k = 7 ∨ k = 8 ∨ k = 9 ∨ k = 10 ∨ k = 11 ∨ k = 12 ∨ k = 13 ∨ k = 14 ∨ k = 15 := by omega
  all_goals kernel_rfl

set_option maxHeartbeats 1000000 in
set_option maxRecDepth 100000 in
theorem print_any (d : Dat) (h : d.ok) (w : World) :
    Calls Try.prog 41 #[d.val] w fun e w' => ∃ A c', e = .returned (.slice A 64 c') ∧ w'.ownsRow w.heap.size 5 1 (.slice A 64 c') 64 (nums .u8 d.bytes) ∧ Ext w w' := by
  obtain ⟨i0, hi, hz0, hz1, hz2⟩ := info_parts info_u8
  have HI := Lib.hid hi; have HZ0 := Lib.hid hz0; have HZ1 := Lib.hid hz1; have HZ2 := Lib.hid hz2
  clear hi hz0 hz1 hz2
  have HC := Lib.hid (fun W : World => table_any d h W)
  have HX := Lib.hid (fun (k : Nat) (hk : k < 16) (W : World) => tbl_index64 d k hk W)
  have HU := Lib.hid (fun k : Nat => wordAt_u32 d h k)
  have HS := Lib.hid (fun (k : Nat) (hk : k < 16) => prB_succ d.words k hk)
  have hfull : d.words.take 16 = d.words := rfl
  have HF := Lib.hid hfull; clear hfull
  unfold Dat.bytes
  generalize tblV d = T at *
  generalize hL : d.words = L at *
  clear hL h
  obtain ⟨nr, arch, ip, a0, a1, a2, a3, a4, a5⟩ := d
  go_enter Try.func41, Try.ntmps41
  go_wp2_with fail
  refine (HC.out _).mono ?_
  rintro e w1 ⟨rfl, hx1⟩
  go_wp2_with fail
  go_loopw [3, 8] (fun v i wr => ∃ (k : Nat) (A : Option Addr) (c' : Nat), k ≤ 16 ∧ i = .int .i64 k ∧ v = .slice A (4 * k) c' ∧ wr.ownsRow w.heap.size 5 1 (.slice A (4 * k) c') (4 * k) (nums .u8 (prB (L.take k))) ∧ Ext w wr) (fun _ i _ => 16 - (intOf i).toNat)
  case atStart => exact ⟨0, none, 0, by omega, rfl, rfl, World.ownsRow_nil _ _ _ _, hx1.one⟩
  case round =>
    obtain ⟨k, A, c', hk, rfl, rfl, hown, hext⟩ := hrel
    by_cases hlt : k < 16
    · have hidx : ∀ W, (Instr.index 107 T (.int .i64 k)).run Try.prog W = .ok (.int .u32 (L.getD k 0)) W := fun W => HX.out k hlt W
      have hu := HU.out k
      have hs := Lib.hid (HS.out k hlt)
      generalize L.getD k 0 = x at *
      have hP := Lib.hid (fun W : World => put32_own x W hu.1 (by have := hu.2; omega))
      go_wp2_with (first | (go_at_call 22; refine (hP.out _).mono ?_; rintro e w2 ⟨rfl, hm2, hx2⟩) | (at_builtin; refine wpList_app rfl (.tmp 11) (.tmp 13) _ rfl w.heap.size 5 i0 _ 1 1 Try.underlying23 HI.out HZ0.out HZ1.out HZ2.out rfl (by omega) A (4 * k) c' (nums .u8 (prB (L.take k))) rfl (own_ext hown hx2) _ 4 4 (nums .u8 (leB 4 x)) rfl (by rw [List.length_map, leB_length]) hm2 nums_one (by omega) (by omega) (by have := hext.size; have := hx2.size; omega) ?_; intro A2 c2 w3 hown3 hg3 hat3))
      have hx3 := (hext.trans hx2).app (own_ext hown hx2) (Nat.le_refl _) hg3
      go_wp2
      go_roundw
      case rel => exact ⟨k + 1, A2, c2, by omega, by go_num, rfl, by rw [hs.out, show 4 * (k + 1) = 4 * k + 4 from by omega]; simpa [nums] using hown3, hx3⟩
      case measure => simp [intOf]; omega
    · obtain rfl : k = 16 := by omega
      go_wp2
      go_ret
      exact ⟨A, c', rfl, by rw [HF.out] at hown; exact hown, hext⟩
end Go.Proofs.Ytlicndonhmcmmaa
