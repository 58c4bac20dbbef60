import Derived.Laws.Bits64b
import Derived.Shelf.Spec.SlicesInsert
import Derived.Test.YtjlhfmedaandeaaMarks
import Derived.Test.YtjlhfmedaandeaaCelA
import Derived.Test.YtjlhfmedaandeaaBools
/- The document's Reached. -/
namespace Go.Proofs.Ytjlhfmedaandeaa
open Go.RowKit Go.ChangeShapes Go.WideShapes
set_option linter.unusedVariables false
set_option linter.unusedSimpArgs false

theorem wayRaw_pos (i : Ins) (hi : i.ok) (a : Int) (ha : 0 ≤ a) : ∀ x ∈ wayRaw i a, a < x := by
  have j0 := hi.2.1.1
  have f0 := hi.2.2.1.1
  have k0 := hi.2.2.2.1
  intro x hx
  unfold wayRaw at hx
  split at hx
  · cases hx
  split at hx
  · split at hx
    · simp at hx; omega
    · split at hx
      · simp at hx; omega
      · simp at hx; omega
  · simp at hx; omega
theorem takeWhile_mem {p : Int → Bool} : ∀ (L : List Int) (x : Int), x ∈ L.takeWhile p → x ∈ L ∧ p x = true
  | [], _, h => by simp at h
  | y :: L, x, h => by
    simp only [List.takeWhile_cons] at h
    split at h
    · rename_i hy
      rcases List.mem_cons.1 h with rfl | h
      · exact ⟨by simp, hy⟩
      · have := takeWhile_mem L x h
        exact ⟨by simp [this.1], this.2⟩
    · cases h
theorem nextL_bd (ps : List Ins) (hok : ∀ i ∈ ps, i.ok) (a : Int) : ∀ x ∈ nextL ps a, a < x ∧ 0 ≤ x ∧ x < ps.length := fun x hx => by
  unfold nextL at hx
  split at hx
  · cases hx
  · rename_i h
    have hk : a.toNat < ps.length := by omega
    rw [List.getD_eq_getElem?_getD, List.getElem?_eq_getElem hk] at hx
    obtain ⟨h1, h2⟩ := takeWhile_mem _ _ hx
    have := wayRaw_pos _ (hok _ (List.getElem_mem hk)) a (by omega) x h1
    simp at h2
    omega
theorem nextL_len (ps : List Ins) (a : Int) : (nextL ps a).length ≤ 2 := by
  unfold nextL
  split
  · simp
  · refine Nat.le_trans (List.takeWhile_prefix _).length_le ?_
    unfold wayRaw
    split
    · simp
    split
    · split
      · simp
      · split
        · simp
        · simp
    · simp
def setAll (l : List Bool) (ns : List Int) : List Bool := ns.foldl (fun l n => l.set n.toNat true) l
theorem setAll_length : ∀ (ns : List Int) (l : List Bool), (setAll l ns).length = l.length
  | [], _ => rfl
  | n :: ns, l => by
    have := setAll_length ns (l.set n.toNat true)
    simp only [setAll, List.foldl_cons] at this ⊢
    rw [this, List.length_set]
theorem setAll_take (l : List Bool) (ns : List Int) (k : Nat) (hk : k < ns.length) : setAll l (ns.take (k + 1)) = (setAll l (ns.take k)).set ns[k].toNat true := by
  unfold setAll
  rw [List.take_succ_eq_append_getElem hk, List.foldl_append]
  rfl
def rstep (ps : List Ins) (l : List Bool) (i : Nat) : List Bool := if l.getD i false then setAll l (nextL ps i) else l
def rstart (n : Nat) : List Bool := (List.replicate n false).set 0 true
def rupto (ps : List Ins) (k : Nat) : List Bool := (List.range k).foldl (rstep ps) (rstart ps.length)
/-- Which places are reached. -/
def reachL (ps : List Ins) : List Bool := if 4096 < ps.length then [] else rupto ps ps.length
theorem rupto_succ (ps : List Ins) (k : Nat) : rupto ps (k + 1) = rstep ps (rupto ps k) k := by simp [rupto, List.range_succ, List.foldl_append]
theorem rstep_length (ps : List Ins) (l : List Bool) (i : Nat) : (rstep ps l i).length = l.length := by
  unfold rstep
  split
  · exact setAll_length _ _
  · rfl
theorem rupto_length (ps : List Ins) : ∀ k, (rupto ps k).length = ps.length
  | 0 => by simp [rupto, rstart]
  | k + 1 => by rw [rupto_succ, rstep_length, rupto_length ps k]
end Go.Proofs.Ytjlhfmedaandeaa

/- The small functions of cells: writes, reads, room, come and the visits. -/
namespace Go.Proofs.Ytjlhfmedaandeaa
open Go.RowKit Go.ChangeShapes Go.WideShapes
set_option linter.unusedVariables false
set_option linter.unusedSimpArgs false

/-- The cell that an instruction writes, as a mask. -/
def wrM (i : Ins) : Int := if clsOf i.code == 2 && decide (i.k < 16) then 2 ^ i.k.toNat else 0
def rdM (i : Ins) : Int := if (i.code == 96 || i.code == 97) && decide (i.k < 16) then 2 ^ i.k.toNat else 0

set_option maxHeartbeats 4000000 in
set_option maxRecDepth 100000 in
theorem writesI (i : Ins) (hi : i.ok) (w : World) :
    Calls Try.prog 106 #[i.val] w fun e w' => e = .returned (.int .u16 (wrM i)) ∧ Ext w w' := by
  have HK := Lib.hid (fun W => of_any i.code W)
  obtain ⟨co, jt, jf, k⟩ := i
  have hr : wrM ⟨co, jt, jf, k⟩ = wrM ⟨co, jt, jf, k⟩ := rfl
  conv at hr => rhs; unfold wrM clsOf; dsimp only
  simp only [Ins.val, Ins.cells] at HK ⊢
  generalize (byE co).1.cls = q at *
  have k0 : 0 ≤ k := hi.2.2.2.1
  rw [hr]
  have B := Blk.new w 43 #[.int .u16 co, .int .u8 jt, .int .u8 jf, .int .u32 k]
  have p0 := B.cell 0
  have hx := (Ext.refl w).alloc (.cells #[.int .u16 co, .int .u8 jt, .int .u8 jf, .int .u32 k] 43)
  clear hr hi
  by_cases hq : q = 2
  · subst hq
    by_cases hk : k < 16
    · have hd : decide ((16 : Int) ≤ k) = false := by simp; omega
      simp only [beq_self_eq_true, hk, decide_true, Bool.and_self, if_true]
      have hk16 : k = 0 ∨ k = 1 ∨ k = 2 ∨ k = 3 ∨ k = 4 ∨ k = 5 ∨ k = 6 ∨ k = 7 ∨ k = 8 ∨ k = 9 ∨ k = 10 ∨ k = 11 ∨ k = 12 ∨ k = 13 ∨ k = 14 ∨ k = 15 := by omega
      clear hk k0 hd
      rcases hk16 with rfl | rfl | rfl | rfl | rfl | rfl | rfl | rfl | rfl | rfl | rfl | rfl | rfl | rfl | rfl | rfl
      all_goals
        go_enter Try.func106, Try.ntmps106
        go_wp2_with fail
        refine (HK.out _).mono ?_
        rintro e w1 ⟨rfl, hx'⟩
        have p3 := (B.ext hx').cell 3
        replace hx := hx.trans hx'
        clear B p0 hx' HK
        go_wp2
        go_ret
        exact ⟨rfl, hx⟩
    · have hd : (16 : Int) ≤ k := by omega
      simp only [hk, decide_false, Bool.and_false, Bool.false_eq_true, if_false]
      clear hk
      go_enter Try.func106, Try.ntmps106
      go_wp2_with fail
      refine (HK.out _).mono ?_
      rintro e w1 ⟨rfl, hx'⟩
      have p3 := (B.ext hx').cell 3
      replace hx := hx.trans hx'
      clear B p0 hx' HK
      go_wp2
      go_ret
      exact ⟨rfl, hx⟩
  · have hq' : (q == 2) = false := by simpa using hq
    simp only [hq', Bool.false_and, Bool.false_eq_true, if_false]
    have hq2 : (q != 2) = true := by simp [bne, hq']
    go_enter Try.func106, Try.ntmps106
    go_wp2_with fail
    refine (HK.out _).mono ?_
    rintro e w1 ⟨rfl, hx'⟩
    replace hx := hx.trans hx'
    clear B p0 hx' HK
    go_wp2
    go_ret
    exact ⟨rfl, hx⟩

set_option maxHeartbeats 4000000 in
set_option maxRecDepth 100000 in
theorem readsI (i : Ins) (hi : i.ok) (w : World) :
    Calls Try.prog 93 #[i.val] w fun e w' => e = .returned (.int .u16 (rdM i)) ∧ Ext w w' := by
  obtain ⟨co, jt, jf, k⟩ := i
  have hr : rdM ⟨co, jt, jf, k⟩ = rdM ⟨co, jt, jf, k⟩ := rfl
  conv at hr => rhs; unfold rdM; dsimp only
  simp only [Ins.val, Ins.cells]
  have k0 : 0 ≤ k := hi.2.2.2.1
  rw [hr]
  have B := Blk.new w 43 #[.int .u16 co, .int .u8 jt, .int .u8 jf, .int .u32 k]
  have p0 := B.cell 0
  have p3 := B.cell 3
  have hx := (Ext.refl w).alloc (.cells #[.int .u16 co, .int .u8 jt, .int .u8 jf, .int .u32 k] 43)
  clear hr hi B
  by_cases hc : co = 96 ∨ co = 97
  · have hcb : (co == 96 || co == 97) = true := by simpa using hc
    rw [hcb]
    clear hcb
    by_cases hk : k < 16
    · simp only [hk, decide_true, Bool.and_self, if_true]
      have hk16 : k = 0 ∨ k = 1 ∨ k = 2 ∨ k = 3 ∨ k = 4 ∨ k = 5 ∨ k = 6 ∨ k = 7 ∨ k = 8 ∨ k = 9 ∨ k = 10 ∨ k = 11 ∨ k = 12 ∨ k = 13 ∨ k = 14 ∨ k = 15 := by omega
      clear hk k0
      rcases hc with rfl | rfl
      all_goals rcases hk16 with rfl | rfl | rfl | rfl | rfl | rfl | rfl | rfl | rfl | rfl | rfl | rfl | rfl | rfl | rfl | rfl
      all_goals
        go_enter Try.func93, Try.ntmps93
        go_wp2
        go_ret
        exact ⟨rfl, hx⟩
    · have hd : (16 : Int) ≤ k := by omega
      simp only [hk, decide_false, Bool.and_false, Bool.false_eq_true, if_false]
      clear hk
      rcases hc with rfl | rfl
      all_goals
        go_enter Try.func93, Try.ntmps93
        go_wp2
        go_ret
        exact ⟨rfl, hx⟩
  · have h1 : (co != 96) = true := by simp; omega
    have h2 : (co != 97) = true := by simp; omega
    have hcb : (co == 96 || co == 97) = false := by simp; omega
    rw [hcb]
    simp only [Bool.false_and, Bool.false_eq_true, if_false]
    go_enter Try.func93, Try.ntmps93
    go_wp2
    go_ret
    exact ⟨rfl, hx⟩

end Go.Proofs.Ytjlhfmedaandeaa

/- cells.walk's closure come, and the visits. -/
namespace Go.Proofs.Ytjlhfmedaandeaa
open Go.RowKit Go.ChangeShapes Go.WideShapes
set_option linter.unusedVariables false
set_option linter.unusedSimpArgs false

def masks (l : List Int) : Array Value := (l.map (Value.int .u16)).toArray
theorem masks_at (l : List Int) (k : Nat) (hk : k < l.length) : (masks l)[k]? = some (.int .u16 l[k]) := by simp [masks, hk]
theorem masks_set (l : List Int) (k : Nat) (b : Int) : (masks l).setIfInBounds k (.int .u16 b) = masks (l.set k b) := by simp [masks, List.map_set]
set_option maxHeartbeats 4000000 in
set_option maxRecDepth 100000 in
theorem comeI (bR bS gR gS n len : Nat) (m : Int) (S : List Int) (R : List Bool) (w : World) (hS : S.length = len) (hR : R.length = len) (hn : n < len) (hne : gR ≠ gS) (h1 : bR ≠ gS ∧ bR ≠ gR) (h2 : bS ≠ gS ∧ bS ≠ gR)
    (B1 : Blk w bR 23 #[.slice (some ⟨gR, 0, none⟩) len len]) (B2 : Blk w bS 139 #[.slice (some ⟨gS, 0, none⟩) len len])
    (B3 : Blk w gR 4 (bools R)) (B4 : Blk w gS 29 (masks S)) :
    Calls Try.prog 104 #[.int .i64 n, .int .u16 m, .pointer (some ⟨bR, 0, none⟩), .pointer (some ⟨bS, 0, none⟩)] w fun e w' => (∃ v, e = .returned v) ∧
      w' = ((if R.getD n false then w else w.setCell ⟨gS, n, none⟩ (.int .u16 65535)).setCell ⟨gR, n, none⟩ (.bool true)).setCell ⟨gS, n, none⟩ (.int .u16 (bits .and .u16 (if R.getD n false then S.getD n 0 else 65535) m)) := by
  have i1 : (0 : Int) ≤ n := by omega
  have i2 : (n : Int) < len := by omega
  have p1 := B1.cell 0
  have p2 := B2.cell 0
  have p3 := (B3.cell n).trans (bools_at R n (by omega))
  have p4 := (B4.cell n).trans (masks_at S n (by omega))
  have e1 : R.getD n false = R[n]'(by omega) := by rw [List.getD_eq_getElem?_getD, List.getElem?_eq_getElem (by omega)]; rfl
  have e2 : S.getD n 0 = S[n]'(by omega) := by rw [List.getD_eq_getElem?_getD, List.getElem?_eq_getElem (by omega)]; rfl
  rw [e1, e2]
  have f3 := B3.frozen n
  have f4 := B4.frozen n
  clear e1 e2
  generalize R[n]'(by omega) = r at *
  generalize S[n]'(by omega) = s at *
  cases r with
  | true =>
    simp only [if_true]
    go_enter Try.func104, Try.ntmps104
    go_wp2
    go_end0
    exact ⟨⟨_, rfl⟩, rfl⟩
  | false =>
    simp only [Bool.false_eq_true, if_false]
    go_enter Try.func104, Try.ntmps104
    go_wp2
    go_end0
    exact ⟨⟨_, rfl⟩, rfl⟩
/-- What come comes to: the masks and the marks. -/
def comeS (S : List Int) (R : List Bool) (n : Nat) (m : Int) : List Int := S.set n (bits .and .u16 (if R.getD n false then S.getD n 0 else 65535) m)
theorem come_world {gR gS n len : Nat} {m : Int} {S : List Int} {R : List Bool} {w w' : World} (hne : gR ≠ gS)
    (B3 : Blk w gR 4 (bools R)) (B4 : Blk w gS 29 (masks S))
    (e : w' = ((if R.getD n false then w else w.setCell ⟨gS, n, none⟩ (.int .u16 65535)).setCell ⟨gR, n, none⟩ (.bool true)).setCell ⟨gS, n, none⟩ (.int .u16 (bits .and .u16 (if R.getD n false then S.getD n 0 else 65535) m))) :
    Blk w' gR 4 (bools (R.set n true)) ∧ Blk w' gS 29 (masks (comeS S R n m)) ∧ w'.heap.size = w.heap.size ∧ ∀ b cs t, Blk w b t cs → b ≠ gR → b ≠ gS → Blk w' b t cs := by
  unfold comeS
  cases hr : R.getD n false with
  | true =>
    rw [hr] at e
    simp only [if_true] at e ⊢
    subst e
    refine ⟨?_, ?_, by simp, fun b cs t h n1 n2 => (h.far n1 _).far n2 _⟩
    · rw [← bools_set]; exact (B3.set_ n _).far hne _
    · rw [← masks_set]; exact (B4.far (Ne.symm hne) _).set_ n _
  | false =>
    rw [hr] at e
    simp only [Bool.false_eq_true, if_false] at e ⊢
    subst e
    refine ⟨?_, ?_, by simp, fun b cs t h n1 n2 => ((h.far n2 _).far n1 _).far n2 _⟩
    · rw [← bools_set]; exact ((B3.far hne _).set_ n _).far hne _
    · have h := ((B4.set_ n (.int .u16 65535)).far (p := ⟨gR, n, none⟩) (Ne.symm hne) (.bool true)).set_ n (.int .u16 (bits .and .u16 65535 m))
      rw [masks_set, masks_set, List.set_set] at h
      exact h

end Go.Proofs.Ytjlhfmedaandeaa

/- math/bits.Mul by one; slices.Repeat of one mask. -/
namespace Go.Proofs.Ytjlhfmedaandeaa
open Go.RowKit Go.ChangeShapes Go.WideShapes
set_option linter.unusedVariables false
set_option linter.unusedSimpArgs false

theorem low_u64 (n : Nat) (hn : n ≤ 100000) : bits .and .u64 (n : Int) 4294967295 = n := by
  have h := bits_and_u64_nat n 4294967295 (by omega) (by omega)
  rw [show ((4294967295 : Nat) : Int) = 4294967295 from rfl] at h
  rw [h]
  rw [show (4294967295 : Nat) = 2 ^ 32 - 1 from rfl, Nat.and_two_pow_sub_one_eq_mod, Nat.mod_eq_of_lt (by omega)]
end Go.Proofs.Ytjlhfmedaandeaa

/- slices.Repeat of one mask. -/
namespace Go.Proofs.Ytjlhfmedaandeaa
open Go.RowKit Go.ChangeShapes Go.WideShapes
set_option linter.unusedVariables false
set_option linter.unusedSimpArgs false

theorem info_u16 : (Try.prog.info? 29).map (fun i => (i.zero, i.size, i.bytes)) = some (some (.int .u16 0), 1, 2) := by kernel_rfl
theorem size_u16 : (Try.prog.info? 29).map (·.size) = some 1 := by kernel_rfl
/-- The first k masks are laid. -/
def laidM (k n : Nat) : List Int := List.replicate k 65535 ++ List.replicate (n - k) 0
theorem made_masks (n : Nat) : madeCells #[Value.int .u16 0] n = masks (List.replicate n 0) := by
  apply Array.toList_inj.1
  rw [toList_madeCells_one]
  simp [masks]
theorem splice_laid (k m n : Nat) (h : k + m ≤ n) : splice ((laidM k n).map (Value.int .u16)) k ((List.replicate m 65535).map (Value.int .u16)) = (laidM (k + m) n).map (Value.int .u16) := by
  unfold splice laidM
  simp only [List.map_append, List.map_replicate, List.length_replicate]
  rw [List.take_append_of_le_length (by simp), List.take_of_length_le (by simp), List.drop_append, List.drop_of_length_le (by simp)]
  simp only [List.length_replicate, List.nil_append, List.drop_replicate]
  rw [show n - k - (k + m - k) = n - (k + m) by omega, ← List.append_assoc, List.replicate_append_replicate]

end Go.Proofs.Ytjlhfmedaandeaa

/- cells.walk: what is sure at the places that are reached, as a plain function; what lies where while it walks. -/
namespace Go.Proofs.Ytjlhfmedaandeaa
open Go.RowKit Go.ChangeShapes Go.WideShapes
set_option linter.unusedVariables false
set_option linter.unusedSimpArgs false
attribute [local go_sem] Oper.semAt_some

/-- One place after another one: the masks and the marks. -/
def come1 (m : Int) (s : List Int × List Bool) (n : Int) : List Int × List Bool := (comeS s.1 s.2 n.toNat m, s.2.set n.toNat true)
def wstep (ps : List Ins) (s : List Int × List Bool) (k : Nat) : List Int × List Bool :=
  if s.2.getD k false then (nextL ps k).foldl (come1 (bits .or .u16 (s.1.getD k 0) (wrM (ps.getD k zeroI)))) s else s
def wupto (ps : List Ins) (k : Nat) : List Int × List Bool := (List.range k).foldl (wstep ps) (List.replicate ps.length 0, rstart ps.length)
theorem wupto_succ (ps : List Ins) (k : Nat) : wupto ps (k + 1) = wstep ps (wupto ps k) k := by simp [wupto, List.range_succ, List.foldl_append]
/-- The visits up to a place: where, and with which mask. -/
def visits (ps : List Ins) (k : Nat) : List (Nat × Int) := (List.range k).filterMap fun j => if (wupto ps j).2.getD j false then some (j, (wupto ps j).1.getD j 0) else none
theorem visits_succ (ps : List Ins) (k : Nat) : visits ps (k + 1) = visits ps k ++ (if (wupto ps k).2.getD k false then [(k, (wupto ps k).1.getD k 0)] else []) := by
  unfold visits
  rw [List.range_succ, List.filterMap_append]
  congr 1
  rw [List.filterMap_cons, List.filterMap_nil]
  split
  · rename_i h
    split at h
    · cases h
    · rename_i h2
      rw [if_neg h2]
  · rename_i h
    split at h
    · rename_i h2
      cases h
      rw [if_pos h2]
    · cases h
theorem come_foldl_len (m : Int) : ∀ (ns : List Int) (s : List Int × List Bool), (ns.foldl (come1 m) s).1.length = s.1.length ∧ (ns.foldl (come1 m) s).2.length = s.2.length
  | [], s => ⟨rfl, rfl⟩
  | n :: ns, s => by
    have := come_foldl_len m ns (come1 m s n)
    simp only [List.foldl_cons]
    rw [this.1, this.2]
    simp [come1, comeS]
theorem wstep_len (ps : List Ins) (s : List Int × List Bool) (k : Nat) : (wstep ps s k).1.length = s.1.length ∧ (wstep ps s k).2.length = s.2.length := by
  unfold wstep
  split
  · exact come_foldl_len _ _ _
  · exact ⟨rfl, rfl⟩
theorem wupto_len (ps : List Ins) : ∀ k, (wupto ps k).1.length = ps.length ∧ (wupto ps k).2.length = ps.length
  | 0 => by simp [wupto, rstart]
  | k + 1 => by rw [wupto_succ]; have := wstep_len ps (wupto ps k) k; have h := wupto_len ps k; exact ⟨this.1.trans h.1, this.2.trans h.2⟩
theorem masks_rep (n : Nat) : madeCells #[Value.int .u16 0] n = masks (List.replicate n 0) := by
  apply Array.toList_inj.1
  rw [toList_madeCells_one]
  simp [masks]
theorem info_u16' : (Try.prog.info? 29).map (fun i => (i.zero, i.size, i.bytes)) = some (some (.int .u16 0), 1, 2) := by kernel_rfl

/-- The rows and the boxes of walk. -/
structure WB (OV : World → Nat → Prop) (n gS gR bS bR bc : Nat) (s : List Int × List Bool) (W : World) : Prop where
  b1 : Blk W bR 23 #[.slice (some ⟨gR, 0, none⟩) n n]
  b2 : Blk W bS 139 #[.slice (some ⟨gS, 0, none⟩) n n]
  b3 : Blk W gR 4 (bools s.2)
  b4 : Blk W gS 29 (masks s.1)
  b5 : Blk W bc 129 #[.func (.func 104) #[] #[.pointer (some ⟨bR, 0, none⟩), .pointer (some ⟨bS, 0, none⟩)]]
  n1 : ¬ OV W bR
  n2 : ¬ OV W bS
  n3 : ¬ OV W gR
  n4 : ¬ OV W gS
  n5 : ¬ OV W bc
theorem WB.ext {OV : World → Nat → Prop} {n gS gR bS bR bc : Nat} {s : List Int × List Bool} {W W' : World} (h : WB OV n gS gR bS bR bc s W) (e : Ext W W') (o : ∀ b, OV W' b ↔ OV W b) : WB OV n gS gR bS bR bc s W' :=
  ⟨h.b1.ext e, h.b2.ext e, h.b3.ext e, h.b4.ext e, h.b5.ext e, fun k => h.n1 ((o _).1 k), fun k => h.n2 ((o _).1 k), fun k => h.n3 ((o _).1 k), fun k => h.n4 ((o _).1 k), fun k => h.n5 ((o _).1 k)⟩
theorem WB.vk {OV : World → Nat → Prop} {n gS gR bS bR bc : Nat} {s : List Int × List Bool} {W W' : World} (h : WB OV n gS gR bS bR bc s W) (k : VK OV W W') : WB OV n gS gR bS bR bc s W' :=
  ⟨(k.blk h.b1 h.n1).1, (k.blk h.b2 h.n2).1, (k.blk h.b3 h.n3).1, (k.blk h.b4 h.n4).1, (k.blk h.b5 h.n5).1, (k.blk h.b1 h.n1).2, (k.blk h.b2 h.n2).2, (k.blk h.b3 h.n3).2, (k.blk h.b4 h.n4).2, (k.blk h.b5 h.n5).2⟩
theorem WB.noncells {OV : World → Nat → Prop} {n gS gR bS bR bc : Nat} {s : List Int × List Bool} {W W' : World} {row : Option Nat} (h : WB OV n gS gR bS bR bc s W) (hg : W.grownBy W' row) (hr : ∀ r, row = some r → ∃ o : Obj, W.heap[r]? = some o ∧ o.isCells = false) (o : ∀ b, OV W' b ↔ OV W b) : WB OV n gS gR bS bR bc s W' :=
  ⟨blk_noncells h.b1 hg hr, blk_noncells h.b2 hg hr, blk_noncells h.b3 hg hr, blk_noncells h.b4 hg hr, blk_noncells h.b5 hg hr, fun k => h.n1 ((o _).1 k), fun k => h.n2 ((o _).1 k), fun k => h.n3 ((o _).1 k), fun k => h.n4 ((o _).1 k), fun k => h.n5 ((o _).1 k)⟩
/-- What come writes. -/
structure Came (gS gR : Nat) (W W' : World) : Prop where
  os : W'.os = W.os
  tape : W'.tape = W.tape
  output : W'.output = W.output
  size : W'.heap.size = W.heap.size
  keep : ∀ b, b ≠ gR → b ≠ gS → W'.heap[b]? = W.heap[b]?
theorem came_of {gS gR n : Nat} {b : Bool} {x : Int} {w w' : World}
    (e : w' = ((if b then w else w.setCell ⟨gS, n, none⟩ (.int .u16 65535)).setCell ⟨gR, n, none⟩ (.bool true)).setCell ⟨gS, n, none⟩ (.int .u16 x)) : Came gS gR w w' := by
  subst e
  have key : ∀ (W : World) (g : Nat) (u : Value), (g = gR ∨ g = gS) → Came gS gR W (W.setCell ⟨g, n, none⟩ u) := fun W g u hg =>
    ⟨rfl, rfl, rfl, by simp, fun b h1 h2 => Below.heap_setCell W ⟨g, n, none⟩ u b (by rcases hg with rfl | rfl <;> assumption)⟩
  have tr : ∀ {A B C : World}, Came gS gR A B → Came gS gR B C → Came gS gR A C := fun h k => ⟨k.os.trans h.os, k.tape.trans h.tape, k.output.trans h.output, k.size.trans h.size, fun b h1 h2 => (k.keep b h1 h2).trans (h.keep b h1 h2)⟩
  cases b with
  | true => exact tr (key _ _ _ (.inl rfl)) (key _ _ _ (.inr rfl))
  | false => exact tr (tr (key _ _ _ (.inr rfl)) (key _ _ _ (.inl rfl))) (key _ _ _ (.inr rfl))
theorem Came.off {OV : World → Nat → Prop} {gS gR B : Nat} {W W' : World} (h : Came gS gR W W') (h1 : B ≤ gS ∧ B ≤ gR) (n3 : ¬ OV W gR) (n4 : ¬ OV W gS) : Off OV B W W' :=
  ⟨h.os, h.tape, h.output, by rw [h.size]; exact Nat.le_refl _, fun b hb ho => h.keep b (fun e => by subst e; rcases ho with ho | ho; omega; exact n3 ho) (fun e => by subst e; rcases ho with ho | ho; omega; exact n4 ho)⟩
theorem Came.blk {gS gR : Nat} {W W' : World} (h : Came gS gR W W') {b : Nat} {t : TypeId} {cs : Array Value} (hb : Blk W b t cs) (h1 : b ≠ gR) (h2 : b ≠ gS) : Blk W' b t cs := (h.keep b h1 h2).trans hb
theorem WB.come {OV : World → Nat → Prop} {n gS gR bS bR bc : Nat} {s : List Int × List Bool} {W W' : World} (h : WB OV n gS gR bS bR bc s W) (hne : gR ≠ gS) (h1 : bR ≠ gS ∧ bR ≠ gR) (h2 : bS ≠ gS ∧ bS ≠ gR) (h3 : bc ≠ gS ∧ bc ≠ gR) (z : Nat) (m : Int)
    (e : W' = ((if s.2.getD z false then W else W.setCell ⟨gS, z, none⟩ (.int .u16 65535)).setCell ⟨gR, z, none⟩ (.bool true)).setCell ⟨gS, z, none⟩ (.int .u16 (bits .and .u16 (if s.2.getD z false then s.1.getD z 0 else 65535) m)))
    (o : ∀ b, OV W' b ↔ OV W b) : WB OV n gS gR bS bR bc (come1 m s z) W' := by
  obtain ⟨e3, e4, _, ek⟩ := come_world (len := 0) hne h.b3 h.b4 e
  refine ⟨ek _ _ _ h.b1 h1.2 h1.1, ek _ _ _ h.b2 h2.2 h2.1, ?_, ?_, ek _ _ _ h.b5 h3.2 h3.1, fun k => h.n1 ((o _).1 k), fun k => h.n2 ((o _).1 k), fun k => h.n3 ((o _).1 k), fun k => h.n4 ((o _).1 k), fun k => h.n5 ((o _).1 k)⟩
  · simpa [come1] using e3
  · simpa [come1] using e4
/-- What holds between the rounds of the loop over the ways. -/
structure WL (OV : World → Nat → Prop) (VI : List (Nat × Int) → World → Prop) (w : World) (n gS gR bS bR bc g7 g8 k : Nat) (P : Ins) (Ds : List Nat) (vs : List (Nat × Int)) (m : Int) (s : List Int × List Bool) (pre : List Int) (W : World) : Prop where
  far : ∀ y ∈ pre, (k : Int) < y
  vi : VI vs W
  vk : VK OV w W
  wb : WB OV n gS gR bS bR bc (pre.foldl (come1 m) s) W
  b7 : Blk W g7 3 #[.int .i64 k]
  b8 : Blk W g8 43 P.cells
  marks : marksAt Ds W
theorem WL_own (OV : World → Nat → Prop) (VI : List (Nat × Int) → World → Prop) (w : World) (hO : Owns OV VI w.heap.size) (n gS gR bS bR bc g7 g8 k : Nat) (P : Ins) (Ds : List Nat) (vs : List (Nat × Int)) (m : Int) (s : List Int × List Bool) (B : Nat) (hB : w.heap.size ≤ B) (hD : ∀ D ∈ Ds, D < B) :
    OwnFrom B (WL OV VI w n gS gR bS bR bc g7 g8 k P Ds vs m s) := fun pre W W' row h hg hr => by
  have hnc : ∀ r, row = some r → ∃ o : Obj, W.heap[r]? = some o ∧ o.isCells = false := fun r e => (hr r e).2
  have hoff : Off OV w.heap.size W W' := Off.of_grown hg (fun r e => ⟨Nat.le_trans hB (hr r e).1, fun ho => by
    obtain ⟨cs, t, z, hc⟩ := hO.cells _ _ _ h.vi ho
    obtain ⟨o, h1, h2⟩ := hnc r e
    rw [hc] at h1
    cases h1
    cases h2⟩)
  obtain ⟨hv, ho⟩ := hO.off h.vi hoff
  refine ⟨h.far, hv, hO.vk h.vi hoff h.vk, h.wb.noncells hg hnc ho, blk_noncells h.b7 hg hnc, blk_noncells h.b8 hg hnc, h.marks.1, fun D hm => ?_⟩
  have hk := h.marks.2 D hm
  exact (hg.block D (Array.getElem?_eq_some_iff.1 hk).1 (fun e => by have := (hr D e.symm).1; have := hD D hm; omega)).trans hk
theorem foldl_come_at (m : Int) (k : Nat) : ∀ (pre : List Int) (s : List Int × List Bool), (∀ y ∈ pre, (k : Int) < y) → (pre.foldl (come1 m) s).1.getD k 0 = s.1.getD k 0
  | [], s, _ => rfl
  | y :: pre, s, h => by
    rw [List.foldl_cons, foldl_come_at m k pre _ (fun z hz => h z (by simp [hz]))]
    have hy := h y (by simp)
    have hne : y.toNat ≠ k := by omega
    simp [come1, comeS, List.getD_eq_getElem?_getD, List.getElem?_set, hne]
theorem start_come (n : Nat) : come1 0 (List.replicate n 0, List.replicate n false) 0 = (List.replicate n 0, rstart n) := by
  have h : ((List.replicate n false).getD 0 false) = false := by cases n <;> rfl
  unfold come1 comeS rstart
  simp only [Int.toNat_zero, h, Bool.false_eq_true, if_false]
  rw [show bits .and .u16 65535 0 = 0 by decide, List.set_replicate_self]
end Go.Proofs.Ytjlhfmedaandeaa
