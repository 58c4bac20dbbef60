import Derived.Test.YtkejcfbhikpibaaCells9
/- cells.walk's closure come, and the visits. -/
namespace Go.Proofs.Ytkejcfbhikpibaa
open Go.RowKit Go.ChangeShapes Go.WideShapes
set_option linter.unusedVariables false
set_option linter.unusedSimpArgs false

def masks (l : List Int) : Array Value := (l.map (Value.int .u16)).toArray
theorem masks_at (l : List Int) (k : Nat) (hk : k < l.length) : (masks l)[k]? = some (.int .u16 l[k]) := by simp [masks, hk]
theorem masks_set (l : List Int) (k : Nat) (b : Int) : (masks l).setIfInBounds k (.int .u16 b) = masks (l.set k b) := by simp [masks, List.map_set]
set_option maxHeartbeats 4000000 in
set_option maxRecDepth 100000 in
theorem comeI (bR bS gR gS n len : Nat) (m : Int) (S : List Int) (R : List Bool) (w : World) (hS : S.length = len) (hR : R.length = len) (hn : n < len) (hne : gR ≠ gS) (h1 : bR ≠ gS ∧ bR ≠ gR) (h2 : bS ≠ gS ∧ bS ≠ gR)
    (B1 : Blk w bR 53 #[.slice (some ⟨gR, 0, none⟩) len len]) (B2 : Blk w bS 55 #[.slice (some ⟨gS, 0, none⟩) len len])
    (B3 : Blk w gR 4 (bools R)) (B4 : Blk w gS 29 (masks S)) :
    Calls Try.prog 60 #[.int .i64 n, .int .u16 m, .pointer (some ⟨bR, 0, none⟩), .pointer (some ⟨bS, 0, none⟩)] w fun e w' => (∃ v, e = .returned v) ∧
      w' = ((if R.getD n false then w else w.setCell ⟨gS, n, none⟩ (.int .u16 65535)).setCell ⟨gR, n, none⟩ (.bool true)).setCell ⟨gS, n, none⟩ (.int .u16 (bits .and .u16 (if R.getD n false then S.getD n 0 else 65535) m)) := by
  have i1 : (0 : Int) ≤ n := by omega
  have i2 : (n : Int) < len := by omega
  have p1 := B1.cell 0
  have p2 := B2.cell 0
  have p3 := (B3.cell n).trans (bools_at R n (by omega))
  have p4 := (B4.cell n).trans (masks_at S n (by omega))
  have e1 : R.getD n false = R[n]'(by omega) := by rw [List.getD_eq_getElem?_getD, List.getElem?_eq_getElem (by omega)]; rfl
  have e2 : S.getD n 0 = S[n]'(by omega) := by rw [List.getD_eq_getElem?_getD, List.getElem?_eq_getElem (by omega)]; rfl
  rw [e1, e2]
  have f3 := B3.frozen n
  have f4 := B4.frozen n
  clear e1 e2
  generalize R[n]'(by omega) = r at *
  generalize S[n]'(by omega) = s at *
  cases r with
  | true =>
    simp only [if_true]
    go_enter Try.func60, Try.ntmps60
    go_wp2
    go_end0
    exact ⟨⟨_, rfl⟩, rfl⟩
  | false =>
    simp only [Bool.false_eq_true, if_false]
    go_enter Try.func60, Try.ntmps60
    go_wp2
    go_end0
    exact ⟨⟨_, rfl⟩, rfl⟩
/-- What come comes to: the masks and the marks. -/
def comeS (S : List Int) (R : List Bool) (n : Nat) (m : Int) : List Int := S.set n (bits .and .u16 (if R.getD n false then S.getD n 0 else 65535) m)
theorem come_world {gR gS n len : Nat} {m : Int} {S : List Int} {R : List Bool} {w w' : World} (hne : gR ≠ gS)
    (B3 : Blk w gR 4 (bools R)) (B4 : Blk w gS 29 (masks S))
    (e : w' = ((if R.getD n false then w else w.setCell ⟨gS, n, none⟩ (.int .u16 65535)).setCell ⟨gR, n, none⟩ (.bool true)).setCell ⟨gS, n, none⟩ (.int .u16 (bits .and .u16 (if R.getD n false then S.getD n 0 else 65535) m))) :
    Blk w' gR 4 (bools (R.set n true)) ∧ Blk w' gS 29 (masks (comeS S R n m)) ∧ w'.heap.size = w.heap.size ∧ ∀ b cs t, Blk w b t cs → b ≠ gR → b ≠ gS → Blk w' b t cs := by
  unfold comeS
  cases hr : R.getD n false with
  | true =>
    rw [hr] at e
    simp only [if_true] at e ⊢
    subst e
    refine ⟨?_, ?_, by simp, fun b cs t h n1 n2 => (h.far n1 _).far n2 _⟩
    · rw [← bools_set]; exact (B3.set_ n _).far hne _
    · rw [← masks_set]; exact (B4.far (Ne.symm hne) _).set_ n _
  | false =>
    rw [hr] at e
    simp only [Bool.false_eq_true, if_false] at e ⊢
    subst e
    refine ⟨?_, ?_, by simp, fun b cs t h n1 n2 => ((h.far n2 _).far n1 _).far n2 _⟩
    · rw [← bools_set]; exact ((B3.far hne _).set_ n _).far hne _
    · have h := ((B4.set_ n (.int .u16 65535)).far (p := ⟨gR, n, none⟩) (Ne.symm hne) (.bool true)).set_ n (.int .u16 (bits .and .u16 65535 m))
      rw [masks_set, masks_set, List.set_set] at h
      exact h

set_option maxRecDepth 100000 in
theorem visitR (b g n len : Nat) (m : Int) (R : List Bool) (w : World) (hR : R.length = len) (hn : n < len)
    (B1 : Blk w b 53 #[.slice (some ⟨g, 0, none⟩) len len]) (B3 : Blk w g 4 (bools R)) :
    Calls Try.prog 42 #[.int .i64 n, .int .u16 m, .pointer (some ⟨b, 0, none⟩)] w fun e w' => (∃ v, e = .returned v) ∧ w' = w.setCell ⟨g, n, none⟩ (.bool true) := by
  have i1 : (0 : Int) ≤ n := by omega
  have i2 : (n : Int) < len := by omega
  have p1 := B1.cell 0
  have p3 := (B3.cell n).trans (bools_at R n (by omega))
  have f3 := B3.frozen n
  go_enter Try.func42, Try.ntmps42
  go_wp2
  go_end0
  exact ⟨⟨_, rfl⟩, rfl⟩
set_option maxRecDepth 100000 in
theorem visitS (b g n len : Nat) (m : Int) (S : List Int) (w : World) (hS : S.length = len) (hn : n < len)
    (B1 : Blk w b 55 #[.slice (some ⟨g, 0, none⟩) len len]) (B3 : Blk w g 29 (masks S)) :
    Calls Try.prog 44 #[.int .i64 n, .int .u16 m, .pointer (some ⟨b, 0, none⟩)] w fun e w' => (∃ v, e = .returned v) ∧ w' = w.setCell ⟨g, n, none⟩ (.int .u16 m) := by
  have i1 : (0 : Int) ≤ n := by omega
  have i2 : (n : Int) < len := by omega
  have p1 := B1.cell 0
  have p3 := (B3.cell n).trans (masks_at S n (by omega))
  have f3 := B3.frozen n
  go_enter Try.func44, Try.ntmps44
  go_wp2
  go_end0
  exact ⟨⟨_, rfl⟩, rfl⟩
end Go.Proofs.Ytkejcfbhikpibaa
