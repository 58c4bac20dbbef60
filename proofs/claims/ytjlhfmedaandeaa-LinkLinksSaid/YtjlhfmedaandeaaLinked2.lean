import Derived.Test.YtjlhfmedaandeaaLinked1
/- link.linked of a row that may not be; link.Far. -/
namespace Go.Proofs.Ytjlhfmedaandeaa
open Go.RowKit Go.ChangeShapes Go.WideShapes
set_option linter.unusedVariables false
set_option linter.unusedSimpArgs false
attribute [local go_sem] Oper.semAt_some

set_option maxRecDepth 100000 in
theorem linked_no (A : Option Addr) (n c : Nat) (ps : List Sy) (w : World) (hp : ps.length = n) (hok : ∀ i ∈ ps, i.ok) (hn : n ≤ maxLen) (hmay : mayL ps = false) (hM : InM w A (sc ps)) :
    CallsIn .wide 3 Try.prog 43 #[.slice A n c] w fun e w' => e = .returned (.tuple #[.pointer none, .bool false]) ∧ Ext w w' := by
  have HMay := Lib.hid (codeMay A n c ps w hp hok hn hM)
  rw [hmay] at HMay
  clear hp hM hmay hok
  refine callsIn_of_wp Try.func43 rfl trivial ?_ rfl
  simp only [Try.ntmps43, List.size_toArray, List.length_cons, List.length_nil, Nat.reduceAdd, Nat.reduceSub, Array.replicate_succ, Array.replicate_zero, List.push_toArray, List.append_toArray, List.nil_append, List.cons_append]
  gi_wp2_with (refine ⟨trivial, ?_⟩; gi_at_call 24; refine ((callsIn_wide (n := 2)).2 HMay.out).mono ?_; rintro e w1 ⟨rfl, hx1⟩)
  go_ret2
  exact ⟨rfl, hx1⟩
theorem linkedNo (A : Option Addr) (n c : Nat) (ps : List Sy) (w : World) (hp : ps.length = n) (hok : ∀ i ∈ ps, i.ok) (hn : n ≤ maxLen) (hmay : mayL ps = false) (hM : InM w A (sc ps)) :
    Calls Try.prog 43 #[.slice A n c] w fun e w' => e = .returned (.tuple #[.pointer none, .bool false]) ∧ Ext w w' := callsIn_wide.1 (linked_no A n c ps w hp hok hn hmay hM)
def lall (ps : List Sy) : LSt := lst ps (List.range ps.length).reverse
theorem linkedYes (A : Option Addr) (n c : Nat) (ps : List Sy) (w : World) (hp : ps.length = n) (hok : ∀ i ∈ ps, i.ok) (hmay : mayL ps = true) (hM : InM w A (sc ps)) :
    Calls Try.prog 43 #[.slice A n c] w fun e w' => ∃ gk gp base v, e = .returned (.tuple #[.pointer (some ⟨gk, 0, none⟩), .bool true]) ∧ LK gk gp n base (lall ps).bk (lall ps).pl (lall ps).far v w' ∧ Ext w w' ∧ w.heap.size ≤ base := by
  have h := callsIn_wide.1 (linked_in A n c ps w hp hok hmay hM)
  unfold lall
  rw [hp]
  exact h
/-- How many instructions of a row are far. -/
def farT (ps : List Sy) : Int := if mayL ps = true then (lall ps).far else 0
set_option maxRecDepth 100000 in
theorem linkFar (A : Option Addr) (n c : Nat) (ps : List Sy) (w : World) (hp : ps.length = n) (hok : ∀ i ∈ ps, i.ok) (hn : n ≤ maxLen) (hM : InM w A (sc ps)) :
    Calls Try.prog 21 #[.slice A n c] w fun e w' => e = .returned (.int .i64 (farT ps)) ∧ Ext w w' := by
  cases hmay : mayL ps with
  | false =>
    have H := Lib.hid (linkedNo A n c ps w hp hok hn hmay hM)
    have hf : farT ps = 0 := by unfold farT; rw [hmay]; rfl
    rw [hf]
    clear hp hok hn hM hmay hf
    go_enter Try.func21, Try.ntmps21
    go_wp2_with fail
    refine H.out.mono ?_
    rintro e w1 ⟨rfl, hx1⟩
    go_wp2_with fail
    go_ret
    exact ⟨rfl, hx1⟩
  | true =>
    have H := Lib.hid (linkedYes A n c ps w hp hok hmay hM)
    have hf : farT ps = (lall ps).far := by unfold farT; rw [hmay]; rfl
    rw [hf]
    generalize lall ps = st at *
    clear hp hok hn hM hmay hf
    go_enter Try.func21, Try.ntmps21
    go_wp2_with fail
    refine H.out.mono ?_
    rintro e w1 ⟨gk, gp, base, v, rfl, L, hx1, _⟩
    have c0 := L.k.cell 2
    go_wp2_with fail
    go_ret
    exact ⟨rfl, hx1⟩
end Go.Proofs.Ytjlhfmedaandeaa
