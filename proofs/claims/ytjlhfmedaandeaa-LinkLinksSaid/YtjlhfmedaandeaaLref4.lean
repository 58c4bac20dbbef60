import Derived.Test.YtjlhfmedaandeaaLinkP2
import Derived.Test.YtjlhfmedaandeaaLref3
import Derived.Test.YtjlhfmedaandeaaPrg
/- vestibuleref27.Link. -/
namespace Go.Proofs.Ytjlhfmedaandeaa
open Go.RowKit Go.ChangeShapes Go.WideShapes
set_option linter.unusedVariables false
set_option linter.unusedSimpArgs false

theorem fromR_snoc (ps : List Sy) (sz : List Int) : ∀ (k lo : Nat), fromR ps sz lo (k + 1) = fromR ps sz lo k ++ insR ps sz (lo + k)
  | 0, lo => by simp [fromR]
  | k + 1, lo => by
    have ih := fromR_snoc ps sz k (lo + 1)
    show insR ps sz lo ++ fromR ps sz (lo + 1) (k + 1) = insR ps sz lo ++ fromR ps sz (lo + 1) k ++ insR ps sz (lo + (k + 1))
    rw [ih, List.append_assoc, show lo + 1 + k = lo + (k + 1) by omega]
theorem insR_len (ps : List Sy) (sz : List Int) (i : Nat) : (insR ps sz i).length ≤ 3 := by
  unfold insR
  (repeat' split) <;> simp
theorem fromR_len (ps : List Sy) (sz : List Int) : ∀ (k lo : Nat), (fromR ps sz lo k).length ≤ 3 * k
  | 0, _ => by simp [fromR]
  | k + 1, lo => by
    rw [fromR_snoc, List.length_append]
    have := fromR_len ps sz k lo
    have := insR_len ps sz (lo + k)
    omega
set_option maxRecDepth 100000 in
theorem refLinkNo (A : Option Addr) (n c : Nat) (ps : List Sy) (w : World) (hp : ps.length = n) (hok : ∀ i ∈ ps, i.ok) (hn : n ≤ maxLen) (hM : InM w A (sc ps)) (h : mayL ps = false) :
    Calls Try.prog 18 #[.slice A n c] w fun e w' => e = .returned (.tuple #[.slice none 0 0, .int .i64 250]) ∧ Ext w w' := by
  have H := Lib.hid (refMay25 A n c ps w hp hok hn hM)
  rw [h] at H
  clear hp hok hn hM h
  go_enter Try.func18, Try.ntmps18
  go_wp2_with fail
  refine H.out.mono ?_
  rintro e w1 ⟨rfl, hx1⟩
  go_wp2_with fail
  go_ret2
  exact ⟨rfl, hx1⟩
set_option maxRecDepth 100000 in
theorem refLinkBig (A : Option Addr) (n c : Nat) (ps : List Sy) (w : World) (hp : ps.length = n) (hok : ∀ i ∈ ps, i.ok) (hM : InM w A (sc ps)) (h : mayL ps = true) (hb : 4096 < (lall ps).bk.length) :
    Calls Try.prog 18 #[.slice A n c] w fun e w' => e = .returned (.tuple #[.slice none 0 0, .int .i64 270]) ∧ Ext w w' := by
  have hY := mayL_of h
  have n2 : n ≤ 131072 := by have := hY.l2; omega
  have H := Lib.hid (refMay25 A n c ps w hp hok (by unfold maxLen; omega) hM)
  rw [h] at H
  have HS := Lib.hid (fun W hW => refSizes A n c ps W hp hY hW)
  have HM := Lib.hid hM
  have hl := len_same ps hY
  rw [hp] at hl
  obtain ⟨hz, hzl⟩ := szUp_bd ps (List.range n).reverse
  rw [hp] at hzl
  have HD := Lib.hid (fun g W (hW : Blk W g 3 (nums .i64 (szUp ps (List.range n).reverse)).toArray) => refDist (some ⟨g, 0, none⟩) n n (szUp ps (List.range n).reverse) hzl n2 hz 0 n (Nat.le_refl _) (by omega) W (InM.ofBlk hW rfl))
  rw [Nat.sub_zero, ← hl] at HD
  generalize (lall ps).bk.length = nb at *
  have y1 : decide ((4096 : Int) < nb) = true := by simp; omega
  clear hp hok hM h hY hl hz hzl
  go_enter Try.func18, Try.ntmps18
  go_wp2_with fail
  refine H.out.mono ?_
  rintro e w1 ⟨rfl, hx1⟩
  go_wp2_with fail
  refine (HS.out _ (HM.out.ext hx1)).mono ?_
  rintro e w2 ⟨rfl, hb2, hx2⟩
  go_wp2_with fail
  refine (HD.out _ _ hb2).mono ?_
  rintro e w3 ⟨rfl, hx3⟩
  go_wp2_with fail
  go_ret2
  exact ⟨rfl, (hx1.trans hx2).trans hx3⟩
end Go.Proofs.Ytjlhfmedaandeaa
