import Derived.Test.YtlicndonhmcmmaaBase2
namespace Go.Proofs.Ytlicndonhmcmmaa
open Go.RowKit
theorem own_ext {w w' : World} {base : Nat} {e : TypeId} {size n : Nat} {v : Value} {xs : List Value} (h : w.ownsRow base e size v n xs) (hx : Ext w w') : w'.ownsRow base e size v n xs :=
  h.kept (row := none) ⟨hx.os, hx.tape, hx.output, hx.size, fun k hk _ => hx.block hk⟩ (by
    rcases ho : v.ownBlock with _ | g
    · exact .inl rfl
    · exact .inr (by simp))
end Go.Proofs.Ytlicndonhmcmmaa
