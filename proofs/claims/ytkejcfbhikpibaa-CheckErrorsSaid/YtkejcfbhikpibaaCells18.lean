import Derived.Test.YtkejcfbhikpibaaCells17
/- The plain law: what cells.Reached, Sure and Unsure compute is what the document defines, cell by cell. No program is walked here. -/
namespace Go.Proofs.Ytkejcfbhikpibaa
open Go.RowKit
set_option linter.unusedVariables false
set_option linter.unusedSimpArgs false

theorem come_foldl_snd (m : Int) : ∀ (ns : List Int) (s : List Int × List Bool), (ns.foldl (come1 m) s).2 = setAll s.2 ns
  | [], s => rfl
  | n :: ns, s => by
    rw [List.foldl_cons, come_foldl_snd m ns]
    simp [setAll, come1]
theorem wupto_snd (ps : List Ins) : ∀ k, (wupto ps k).2 = rupto ps k
  | 0 => rfl
  | k + 1 => by
    rw [wupto_succ, rupto_succ]
    unfold wstep rstep
    rw [wupto_snd ps k]
    split
    · rw [come_foldl_snd, wupto_snd ps k]
    · exact wupto_snd ps k
theorem setAll_get (j : Nat) : ∀ (ns : List Int) (l : List Bool), (∀ x ∈ ns, x.toNat ≠ j) → (setAll l ns).getD j false = l.getD j false
  | [], l, _ => rfl
  | n :: ns, l, h => by
    have h1 := setAll_get j ns (l.set n.toNat true) (fun x hx => h x (by simp [hx]))
    have h2 : n.toNat ≠ j := h n (by simp)
    simp only [setAll, List.foldl_cons] at h1 ⊢
    rw [h1]
    simp [List.getD_eq_getElem?_getD, List.getElem?_set, h2]
theorem rupto_stable (ps : List Ins) (hok : ∀ i ∈ ps, i.ok) (j : Nat) : ∀ d, (rupto ps (j + d)).getD j false = (rupto ps j).getD j false
  | 0 => rfl
  | d + 1 => by
    rw [← Nat.add_assoc, rupto_succ]
    unfold rstep
    split
    · rw [setAll_get, rupto_stable ps hok j d]
      intro x hx
      have := nextL_bd ps hok _ x hx
      omega
    · exact rupto_stable ps hok j d
theorem getD_set {α : Type} (l : List α) (i j : Nat) (a d : α) : (l.set i a).getD j d = if i = j ∧ j < l.length then a else l.getD j d := by
  simp only [List.getD_eq_getElem?_getD, List.getElem?_set]
  by_cases h : i = j
  · subst h
    by_cases h2 : i < l.length
    · simp [h2]
    · simp [h2]
  · simp [h]
theorem marks_get (ps : List Ins) (n j : Nat) (hj : j < n) : ∀ k, (marksOf n (visits ps k)).getD j false = (decide (j < k) && (rupto ps j).getD j false)
  | 0 => by simp [visits, marksOf, List.getD_eq_getElem?_getD, hj]
  | k + 1 => by
    rw [visits_succ, wupto_snd]
    by_cases hr : (rupto ps k).getD k false = true
    · rw [if_pos hr, marksOf_snoc, getD_set, marks_get ps n j hj k, marksOf_len]
      by_cases h : k = j
      · subst h; simp only [hj, and_self, if_true]; rw [hr]; simp
      · rw [if_neg (fun e => h e.1)]
        have : decide (j < k) = decide (j < k + 1) := by
          by_cases hh : j < k
          · simp [hh, show j < k + 1 by omega]
          · simp [hh, show ¬ j < k + 1 by omega]
        rw [this]
    · rw [if_neg hr, List.append_nil, marks_get ps n j hj k]
      by_cases h : k = j
      · subst h
        have : (rupto ps k).getD k false = false := by simpa using hr
        rw [this]; simp
      · have : decide (j < k) = decide (j < k + 1) := by
          by_cases hh : j < k
          · simp [hh, show j < k + 1 by omega]
          · simp [hh, show ¬ j < k + 1 by omega]
        rw [this]
theorem masks_get (ps : List Ins) (n j : Nat) (hj : j < n) : ∀ k, (masksOf n (visits ps k)).getD j 0 = (if j < k ∧ (rupto ps j).getD j false = true then (wupto ps j).1.getD j 0 else 65535)
  | 0 => by simp [visits, masksOf, List.getD_eq_getElem?_getD, hj]
  | k + 1 => by
    rw [visits_succ, wupto_snd]
    by_cases hr : (rupto ps k).getD k false = true
    · rw [if_pos hr, masksOf_snoc, getD_set, masks_get ps n j hj k, masksOf_len]
      by_cases h : k = j
      · subst h
        simp only [hj, and_self, if_true]
        rw [if_pos ⟨by omega, hr⟩]
      · rw [if_neg (fun e => h e.1)]
        by_cases hh : j < k
        · simp only [hh, show j < k + 1 by omega, true_and]
        · simp only [hh, show ¬ j < k + 1 by omega, false_and]
    · rw [if_neg hr, List.append_nil, masks_get ps n j hj k]
      by_cases h : k = j
      · subst h
        rw [if_neg (fun e => hr e.2), if_neg (fun e => hr e.2)]
      · by_cases hh : j < k
        · simp only [hh, show j < k + 1 by omega, true_and]
        · simp only [hh, show ¬ j < k + 1 by omega, false_and]
theorem ext_getD {α : Type} (d : α) {l m : List α} (h : l.length = m.length) (hg : ∀ j, j < l.length → l.getD j d = m.getD j d) : l = m := by
  refine List.ext_getElem h fun j h1 h2 => ?_
  have := hg j h1
  simpa [List.getD_eq_getElem?_getD, h1, h2] using this
theorem reach_same (ps : List Ins) (hok : ∀ i ∈ ps, i.ok) : reachT ps = reachL ps := by
  unfold reachT reachL
  split
  · rfl
  · refine ext_getD false (by rw [marksOf_len, rupto_length]) fun j hj => ?_
    rw [marksOf_len] at hj
    rw [marks_get ps _ j hj, show ps.length = j + (ps.length - j) by omega, rupto_stable ps hok j]
    rw [show j + (ps.length - j) = ps.length by omega]
    simp [hj]

/-- A place that isn't sure of a cell, as the document has it. -/
def skipC (i : Ins) (c : Nat) : Bool := (i.code == 2 || i.code == 3) && i.k == (c : Int)
def ustep (ps : List Ins) (c : Nat) (un : List Bool) (i : Nat) : List Bool := if un.getD i false then (if skipC (ps.getD i zeroI) c then un else setAll un (nextL ps i)) else un
def uupto (ps : List Ins) (c k : Nat) : List Bool := (List.range k).foldl (ustep ps c) (rstart ps.length)
theorem uupto_succ (ps : List Ins) (c k : Nat) : uupto ps c (k + 1) = ustep ps c (uupto ps c k) k := by simp [uupto, List.range_succ, List.foldl_append]
theorem ustep_length (ps : List Ins) (c : Nat) (un : List Bool) (i : Nat) : (ustep ps c un i).length = un.length := by
  unfold ustep
  split
  · split
    · rfl
    · exact setAll_length _ _
  · rfl
theorem uupto_length (ps : List Ins) (c : Nat) : ∀ k, (uupto ps c k).length = ps.length
  | 0 => by simp [uupto, rstart]
  | k + 1 => by rw [uupto_succ, ustep_length, uupto_length ps c k]
/-- The document's masks: one cell, the first k places. -/
def sstep (ps : List Ins) (c : Nat) (out : List Int) (i : Nat) : List Int := if (uupto ps c i).getD i false then out else out.set i (bits .or .u16 (out.getD i 0) (2 ^ c : Nat))
def cellUpto (ps : List Ins) (c : Nat) (out : List Int) (k : Nat) : List Int := (List.range k).foldl (sstep ps c) out
theorem cellUpto_succ (ps : List Ins) (c : Nat) (out : List Int) (k : Nat) : cellUpto ps c out (k + 1) = sstep ps c (cellUpto ps c out k) k := by simp [cellUpto, List.range_succ, List.foldl_append]
theorem sstep_length (ps : List Ins) (c : Nat) (out : List Int) (i : Nat) : (sstep ps c out i).length = out.length := by
  unfold sstep
  split
  · rfl
  · simp
theorem cellUpto_length (ps : List Ins) (c : Nat) (out : List Int) : ∀ k, (cellUpto ps c out k).length = out.length
  | 0 => rfl
  | k + 1 => by rw [cellUpto_succ, sstep_length, cellUpto_length ps c out k]
def cellsUpto (ps : List Ins) (m : Nat) : List Int := (List.range m).foldl (fun out c => cellUpto ps c out ps.length) (List.replicate ps.length 0)
theorem cellsUpto_succ (ps : List Ins) (m : Nat) : cellsUpto ps (m + 1) = cellUpto ps m (cellsUpto ps m) ps.length := by simp [cellsUpto, List.range_succ, List.foldl_append]
theorem cellsUpto_length (ps : List Ins) : ∀ m, (cellsUpto ps m).length = ps.length
  | 0 => by simp [cellsUpto]
  | m + 1 => by rw [cellsUpto_succ, cellUpto_length, cellsUpto_length ps m]
def sureL (ps : List Ins) : List Int := if 4096 < ps.length then [] else cellsUpto ps 16

theorem bits16 (op : Nat → Nat → Nat) (bo : BinOp) (hb : ∀ x y : Int, bits bo .u16 x y = IntKind.u16.wrap ((op (BitVec.ofInt 16 x).toNat (BitVec.ofInt 16 y).toNat : Nat) : Int)) (hl : ∀ a b : Nat, a < 65536 → b < 65536 → op a b < 65536) (a b : Nat) (ha : a < 65536) (hbb : b < 65536) : bits bo .u16 (a : Int) (b : Int) = ((op a b : Nat) : Int) := by
  have h1 : (BitVec.ofInt 16 (a : Int)).toNat = a := by rw [BitVec.ofInt_natCast, BitVec.toNat_ofNat]; exact Nat.mod_eq_of_lt (by omega)
  have h2 : (BitVec.ofInt 16 (b : Int)).toNat = b := by rw [BitVec.ofInt_natCast, BitVec.toNat_ofNat]; exact Nat.mod_eq_of_lt (by omega)
  rw [hb, h1, h2]
  have := hl a b ha hbb
  exact IntWalk.u16_in _ (by omega)
theorem and16 (a b : Nat) (ha : a < 65536) (hb : b < 65536) : bits .and .u16 (a : Int) (b : Int) = ((a &&& b : Nat) : Int) :=
  bits16 (· &&& ·) .and (fun x y => by show IntKind.u16.wrap ((BitVec.ofInt 16 x &&& BitVec.ofInt 16 y).toNat : Int) = _; rw [BitVec.toNat_and]) (fun a b h1 h2 => Nat.and_lt_two_pow (n := 16) _ (by omega)) a b ha hb
theorem or16 (a b : Nat) (ha : a < 65536) (hb : b < 65536) : bits .or .u16 (a : Int) (b : Int) = ((a ||| b : Nat) : Int) :=
  bits16 (· ||| ·) .or (fun x y => by show IntKind.u16.wrap ((BitVec.ofInt 16 x ||| BitVec.ofInt 16 y).toNat : Int) = _; rw [BitVec.toNat_or]) (fun a b h1 h2 => Nat.or_lt_two_pow (n := 16) (by omega) (by omega)) a b ha hb
end Go.Proofs.Ytkejcfbhikpibaa
