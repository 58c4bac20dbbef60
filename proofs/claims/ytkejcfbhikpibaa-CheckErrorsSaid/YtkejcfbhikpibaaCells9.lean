import Derived.Test.YtkejcfbhikpibaaCells4
/- The document's Reached. -/
namespace Go.Proofs.Ytkejcfbhikpibaa
open Go.RowKit Go.ChangeShapes Go.WideShapes
set_option linter.unusedVariables false
set_option linter.unusedSimpArgs false

theorem wayRaw_pos (i : Ins) (hi : i.ok) (a : Int) (ha : 0 ≤ a) : ∀ x ∈ wayRaw i a, a < x := by
  have j0 := hi.2.1.1
  have f0 := hi.2.2.1.1
  have k0 := hi.2.2.2.1
  intro x hx
  unfold wayRaw at hx
  split at hx
  · cases hx
  split at hx
  · split at hx
    · simp at hx; omega
    · split at hx
      · simp at hx; omega
      · simp at hx; omega
  · simp at hx; omega
theorem takeWhile_mem {p : Int → Bool} : ∀ (L : List Int) (x : Int), x ∈ L.takeWhile p → x ∈ L ∧ p x = true
  | [], _, h => by simp at h
  | y :: L, x, h => by
    simp only [List.takeWhile_cons] at h
    split at h
    · rename_i hy
      rcases List.mem_cons.1 h with rfl | h
      · exact ⟨by simp, hy⟩
      · have := takeWhile_mem L x h
        exact ⟨by simp [this.1], this.2⟩
    · cases h
theorem nextL_bd (ps : List Ins) (hok : ∀ i ∈ ps, i.ok) (a : Int) : ∀ x ∈ nextL ps a, a < x ∧ 0 ≤ x ∧ x < ps.length := fun x hx => by
  unfold nextL at hx
  split at hx
  · cases hx
  · rename_i h
    have hk : a.toNat < ps.length := by omega
    rw [List.getD_eq_getElem?_getD, List.getElem?_eq_getElem hk] at hx
    obtain ⟨h1, h2⟩ := takeWhile_mem _ _ hx
    have := wayRaw_pos _ (hok _ (List.getElem_mem hk)) a (by omega) x h1
    simp at h2
    omega
theorem nextL_len (ps : List Ins) (a : Int) : (nextL ps a).length ≤ 2 := by
  unfold nextL
  split
  · simp
  · refine Nat.le_trans (List.takeWhile_prefix _).length_le ?_
    unfold wayRaw
    split
    · simp
    split
    · split
      · simp
      · split
        · simp
        · simp
    · simp
def setAll (l : List Bool) (ns : List Int) : List Bool := ns.foldl (fun l n => l.set n.toNat true) l
theorem setAll_length : ∀ (ns : List Int) (l : List Bool), (setAll l ns).length = l.length
  | [], _ => rfl
  | n :: ns, l => by
    have := setAll_length ns (l.set n.toNat true)
    simp only [setAll, List.foldl_cons] at this ⊢
    rw [this, List.length_set]
theorem setAll_take (l : List Bool) (ns : List Int) (k : Nat) (hk : k < ns.length) : setAll l (ns.take (k + 1)) = (setAll l (ns.take k)).set ns[k].toNat true := by
  unfold setAll
  rw [List.take_succ_eq_append_getElem hk, List.foldl_append]
  rfl
def rstep (ps : List Ins) (l : List Bool) (i : Nat) : List Bool := if l.getD i false then setAll l (nextL ps i) else l
def rstart (n : Nat) : List Bool := (List.replicate n false).set 0 true
def rupto (ps : List Ins) (k : Nat) : List Bool := (List.range k).foldl (rstep ps) (rstart ps.length)
/-- Which places are reached. -/
def reachL (ps : List Ins) : List Bool := if 4096 < ps.length then [] else rupto ps ps.length
theorem rupto_succ (ps : List Ins) (k : Nat) : rupto ps (k + 1) = rstep ps (rupto ps k) k := by simp [rupto, List.range_succ, List.foldl_append]
theorem rstep_length (ps : List Ins) (l : List Bool) (i : Nat) : (rstep ps l i).length = l.length := by
  unfold rstep
  split
  · exact setAll_length _ _
  · rfl
theorem rupto_length (ps : List Ins) : ∀ k, (rupto ps k).length = ps.length
  | 0 => by simp [rupto, rstart]
  | k + 1 => by rw [rupto_succ, rstep_length, rupto_length ps k]
def bools (l : List Bool) : Array Value := (l.map Value.bool).toArray
theorem bools_at (l : List Bool) (k : Nat) (hk : k < l.length) : (bools l)[k]? = some (.bool l[k]) := by simp [bools, hk]
theorem bools_set (l : List Bool) (k : Nat) (b : Bool) : (bools l).setIfInBounds k (.bool b) = bools (l.set k b) := by simp [bools, List.map_set]
theorem info_bool : (Try.prog.info? 4).map (fun i => (i.zero, i.size, i.bytes)) = some (some (.bool false), 1, 1) := by kernel_rfl
theorem bools_rep (n : Nat) : madeCells #[Value.bool false] n = bools (List.replicate n false) := by
  apply Array.toList_inj.1
  rw [toList_madeCells_one]
  simp [bools]

end Go.Proofs.Ytkejcfbhikpibaa
