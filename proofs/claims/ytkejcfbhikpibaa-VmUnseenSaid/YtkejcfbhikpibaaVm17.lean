import Derived.Test.YtkejcfbhikpibaaVm16
import Derived.Test.YtkejcfbhikpibaaVm12
/- VmUnseen: what its walk asks of the plain law. -/
namespace Go.Proofs.Ytkejcfbhikpibaa
open Go.RowKit Go.ChangeShapes Go.WideShapes
set_option linter.unusedVariables false
set_option linter.unusedSimpArgs false

theorem loadsB_succ (arg : Int) (ps : List Ins) (k : Nat) (hk : k < ps.length) : loadsB arg (ps.take (k + 1)) = (loadsB arg (ps.take k) || loadsI arg ps[k]) := by
  unfold loadsB
  rw [List.take_succ_eq_append_getElem hk, List.any_append]
  simp
def datC (d : Dat) : Array Value := #[.int .u32 d.nr, .int .u32 d.arch, .int .u64 d.ip, .int .u64 d.a0, .int .u64 d.a1, .int .u64 d.a2, .int .u64 d.a3, .int .u64 d.a4, .int .u64 d.a5]
theorem blk_setArg {W : World} {g : Nat} {t : TypeId} {nr arch ip a0 a1 a2 a3 a4 a5 : Int} (h : Blk W g t #[.int .u32 nr, .int .u32 arch, .int .u64 ip, .int .u64 a0, .int .u64 a1, .int .u64 a2, .int .u64 a3, .int .u64 a4, .int .u64 a5]) (ar : Nat) (ha : ar < 6) (v : Int) :
    Blk (W.setCell ⟨g, 3 + ar, none⟩ (.int .u64 v)) g t (datC (setArg ⟨nr, arch, ip, a0, a1, a2, a3, a4, a5⟩ ar v)) := by
  have hs := h.set_ (3 + ar) (.int .u64 v)
  rcases (by omega : ar = 0 ∨ ar = 1 ∨ ar = 2 ∨ ar = 3 ∨ ar = 4 ∨ ar = 5) with rfl | rfl | rfl | rfl | rfl | rfl <;> exact hs
theorem unseen_run (g n : Nat) (ps : List Ins) (hp : ps.length = n) (hok : ∀ i ∈ ps, i.ok) (hn : n ≤ 300) (d : Dat) (hd : d.ok) (at_ : Int) (I : Ins) (hI : I.ok) (arg by_ : Int) (hby : U64 by_) (x : Int) (m : Nat) (tr : List Nat) (er : Int) (hR : runR d ps = ⟨x, m, tr, er⟩)
    (Q : List Ins) (hQ : Q = ps ∨ (0 ≤ at_ ∧ at_ < n ∧ at_ ∉ ints tr ∧ Q = ps.set at_.toNat I)) (d2 : Dat) (hd2 : d2 = d ∨ (0 ≤ arg ∧ arg < 6 ∧ loadsB arg ps = false ∧ d2 = setArg d arg.toNat by_)) (W : World) (hW : InM W (some ⟨g, 0, none⟩) (pc Q)) :
    Calls Try.prog 17 #[.slice (some ⟨g, 0, none⟩) n n, d2.val] W fun e w' => e = .returned (.tuple #[.int .u32 x, .int .i64 m, .int .i64 er]) ∧ Ext W w' := by
  have hl : Q.length = n := by rcases hQ with h | ⟨_, _, _, h⟩ <;> rw [h]; exact hp; rw [List.length_set]; exact hp
  have hq : ∀ i ∈ Q, i.ok := by
    rcases hQ with h | ⟨_, _, _, h⟩ <;> rw [h]
    · exact hok
    · intro i hi
      rcases List.mem_or_eq_of_mem_set hi with h1 | h1
      · exact hok i h1
      · rw [h1]; exact hI
  have h2 : d2.ok := by
    rcases hd2 with h | ⟨_, _, _, h⟩ <;> rw [h]
    · exact hd
    · exact setArg_ok d hd _ _ hby
  have h := vmRun (some ⟨g, 0, none⟩) n n Q hl hq (by omega) d2 h2 W hW
  have e := (unseen d ps hok at_ I arg by_ Q d2 (by rw [hR, hp]; exact hQ) hd2).trans hR
  rw [e] at h
  exact h
end Go.Proofs.Ytkejcfbhikpibaa
