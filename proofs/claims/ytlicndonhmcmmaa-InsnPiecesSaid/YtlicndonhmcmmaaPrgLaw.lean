/- Plain laws of programs and their bytes. -/
import Derived.Test.YtlicndonhmcmmaaPrg6
namespace Go.Proofs.Ytlicndonhmcmmaa
open Go.RowKit Go.ChangeShapes Go.WideShapes
set_option linter.unusedVariables false
set_option linter.unusedSimpArgs false

theorem leB2 (x : Int) : leB 2 x = [x % 256, x / 256 % 256] := rfl
theorem leB4' (x : Int) : leB 4 x = [x % 256, x / 256 % 256, x / 256 / 256 % 256, x / 256 / 256 / 256 % 256] := rfl
theorem decI_bytes (i : Ins) (h : i.ok) : decI i.bytes = i := by
  obtain ⟨⟨c0, c1⟩, _, _, k0, k1⟩ := h
  obtain ⟨co, jt, jf, k⟩ := i
  have e1 : getB (Ins.mk co jt jf k).bytes 0 2 = leN (leB 2 co) := rfl
  have e2 : getB (Ins.mk co jt jf k).bytes 4 4 = leN (leB 4 k) := rfl
  have e3 : (Ins.mk co jt jf k).bytes.getD 2 0 = jt := rfl
  have e4 : (Ins.mk co jt jf k).bytes.getD 3 0 = jf := rfl
  unfold decI
  rw [e1, e2, e3, e4, leN_leB 2 co c0 c1, leN_leB 4 k k0 k1]
theorem bytes_decI (ys : List Int) (hn : ys.length = 8) (hB : Byt ys) : (decI ys).bytes = ys := by
  match ys, hn with
  | [a, b, c, d, e, f, g, h], _ =>
    have h1 := leB_leN [a, b] (fun x hx => hB x (by simp at hx ⊢; rcases hx with rfl | rfl <;> simp))
    have h2 := leB_leN [e, f, g, h] (fun x hx => hB x (by simp at hx ⊢; rcases hx with rfl | rfl | rfl | rfl <;> simp))
    show leB 2 (leN [a, b]) ++ [c, d] ++ leB 4 (leN [e, f, g, h]) = _
    rw [show (2 : Nat) = [a, b].length from rfl, h1, show (4 : Nat) = [e, f, g, h].length from rfl, h2]
    rfl
theorem piece_pb : ∀ (ps : List Ins) (k : Nat) (hk : k < ps.length), piece (pb ps) k = ps[k].bytes
  | i :: ps, 0, _ => by
    unfold piece
    have : pb (i :: ps) = i.bytes ++ pb ps := rfl
    rw [this, Nat.mul_zero, List.drop_zero, List.take_append_of_le_length (by rw [bytes_len]; exact Nat.le_refl _), List.take_of_length_le (by rw [bytes_len]; exact Nat.le_refl _)]
    rfl
  | i :: ps, k + 1, hk => by
    have hk' : k < ps.length := by simpa using hk
    have ih := piece_pb ps k hk'
    unfold piece at ih ⊢
    have : pb (i :: ps) = i.bytes ++ pb ps := rfl
    rw [this, List.drop_append, List.drop_eq_nil_of_le (by rw [bytes_len]; omega), List.nil_append, bytes_len, show 8 * (k + 1) - 8 = 8 * k from by omega, ih]
    rfl
theorem dp_pb (ps : List Ins) (h : ∀ i ∈ ps, i.ok) : dp (pb ps) ps.length = ps := by
  apply List.ext_getElem
  · rw [dp_length]
  · intro k h1 h2
    have : (dp (pb ps) ps.length)[k] = decI (piece (pb ps) k) := by simp [dp]
    rw [this, piece_pb ps k h2, decI_bytes _ (h _ (List.getElem_mem h2))]
theorem pb_dp_take (bs : List Int) (hB : Byt bs) : ∀ k, 8 * k ≤ bs.length → pb (dp bs k) = bs.take (8 * k)
  | 0, _ => by simp [dp, pb]
  | k + 1, h => by
    rw [dp_succ, pb_append, pb_dp_take bs hB k (by omega)]
    have hl : (piece bs k).length = 8 := by unfold piece; rw [List.length_take, List.length_drop]; omega
    have : pb [decI (piece bs k)] = piece bs k := by
      have := bytes_decI (piece bs k) hl ((hB.drop _).take _)
      simpa [pb] using this
    rw [this]
    unfold piece
    rw [show 8 * (k + 1) = 8 * k + 8 from by omega, List.take_add]
theorem pb_dp (bs : List Int) (hB : Byt bs) (m : Nat) (h : bs.length = 8 * m) : pb (dp bs m) = bs := by
  rw [pb_dp_take bs hB m (by omega), List.take_of_length_le (by omega)]
theorem pb_inj (a b : List Ins) (ha : ∀ i ∈ a, i.ok) (hb : ∀ i ∈ b, i.ok) : pb a = pb b ↔ a = b := by
  refine ⟨fun h => ?_, fun h => by rw [h]⟩
  have hl : a.length = b.length := by
    have := congrArg List.length h
    rw [pb_length, pb_length] at this
    omega
  rw [← dp_pb a ha, ← dp_pb b hb, h, hl]
theorem leB_byt' (n : Nat) (x : Int) : Byt (leB n x) := leB_byt n x
theorem pb_byt : ∀ (ps : List Ins), (∀ i ∈ ps, i.ok) → Byt (pb ps)
  | [], _ => fun x hx => by cases hx
  | i :: ps, h => by
    have hi := h i (List.mem_cons_self ..)
    refine Byt.append (Byt.append (Byt.append (leB_byt 2 _) ?_) (leB_byt 4 _)) (pb_byt ps fun j hj => h j (List.mem_cons_of_mem _ hj))
    intro x hx
    simp only [List.mem_cons, List.not_mem_nil, or_false] at hx
    rcases hx with rfl | rfl
    · exact hi.2.1
    · exact hi.2.2.1
theorem own_cap {w : World} {base : Nat} {e : TypeId} {size n c m : Nat} {A : Option Addr} {xs : List Value} (h : w.ownsRow base e size (.slice A n c) m xs) : n ≤ c ∧ c ≤ 9223372036854775807 := by
  rcases h.2 with ⟨hv, _⟩ | ⟨g, cap, cur, hv, _, _, h1, h2, _⟩
  · simp only [Value.slice.injEq] at hv
    obtain ⟨_, rfl, rfl⟩ := hv
    decide
  · simp only [Value.slice.injEq] at hv
    obtain ⟨_, rfl, rfl⟩ := hv
    unfold maxLen at h2
    omega
end Go.Proofs.Ytlicndonhmcmmaa
