import Derived.Test.YtlicndonhmcmmaaInsn10
namespace Go.Proofs.Ytlicndonhmcmmaa
open Go.RowKit Go.ChangeShapes Go.WideShapes
set_option linter.unusedVariables false

theorem parse_yes8 (A : Option Addr) (m n c : Nat) (bs : List Int) (w : World) (hn : n = 8 * m) (hm : m ≤ 4096) (hb : n ≤ c ∧ c ≤ 9223372036854775807 ∧ n ≤ 1000000) (hl : bs.length = n) (hB : Byt bs) (hM : InM w A (nums .u8 bs)) :
    Calls Try.prog 46 #[.slice A n c] w fun e w' => ∃ P c', e = .returned (.tuple #[.slice P m c', .int .i64 0]) ∧ w'.ownsRow (w.heap.size + 3) 73 4 (.slice P m c') m (insC bs (List.range m)) ∧ Ext w w' :=
  callsIn_wide.1 (parse_in A m n c bs w hn hm hb hl hB hM)
theorem parse_odd (A : Option Addr) (n c : Nat) (w : World) (hn : ¬ n % 8 = 0) :
    Calls Try.prog 46 #[.slice A n c] w fun e w' => e = .returned (.tuple #[.slice none 0 0, .int .i64 20]) ∧ Ext w w' := by
  have d1 : ((n : Int) % 8 != 0) = true := by simp; omega
  clear hn
  go_enter Try.func46, Try.ntmps46
  go_wp2
  go_ret2
  first | exact ⟨rfl, Ext.refl _⟩ | exact ⟨rfl, (Ext.refl _).alloc _⟩
theorem parse_long (A : Option Addr) (n c : Nat) (w : World) (hn : n % 8 = 0) (h : 32768 < n) :
    Calls Try.prog 46 #[.slice A n c] w fun e w' => e = .returned (.tuple #[.slice none 0 0, .int .i64 3]) ∧ Ext w w' := by
  have d1 : ((n : Int) % 8 != 0) = false := by simp; omega
  have d2 : decide (32768 < (n : Int)) = true := by simp; omega
  clear hn h
  go_enter Try.func46, Try.ntmps46
  go_wp2
  go_ret2
  first | exact ⟨rfl, Ext.refl _⟩ | exact ⟨rfl, (Ext.refl _).alloc _⟩
end Go.Proofs.Ytlicndonhmcmmaa
