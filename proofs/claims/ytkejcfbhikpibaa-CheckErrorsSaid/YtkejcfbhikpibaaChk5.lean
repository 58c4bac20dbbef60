import Derived.Test.YtkejcfbhikpibaaCells21
import Derived.Test.YtkejcfbhikpibaaChk4
/- check.At and check.Check; the document's At. -/
namespace Go.Proofs.Ytkejcfbhikpibaa
open Go.RowKit Go.ChangeShapes Go.WideShapes
set_option linter.unusedVariables false
set_option linter.unusedSimpArgs false

/-- What is wrong with the instruction at a place. -/
def errAt (ps : List Ins) (i : Nat) : Int := oneE (ps.getD i zeroI) ((ps.length : Int) - 1 - i)
/-- Where something is wrong with a program, and what. -/
def atE (ps : List Ins) : Int × Int :=
  if ps.length < 1 ∨ 4096 < ps.length then (0, 60) else
  match (List.range ps.length).find? fun i => errAt ps i != 0 with
  | some i => ((i : Int), errAt ps i)
  | none => if clsOf (ps.getD (ps.length - 1) zeroI).code != 5 then ((ps.length : Int) - 1, 46) else
    match unsureL ps with
    | x :: _ => (x, 61)
    | [] => (0, 0)
theorem find_first {p : Nat → Bool} {n k : Nat} (hk : k < n) (ha : ∀ j, j < k → p j = false) (h : p k = true) : (List.range n).find? p = some k := by
  rw [List.find?_range_eq_some]
  exact ⟨h, by simpa using hk, fun j hj => by simp [ha j hj]⟩
theorem find_none {p : Nat → Bool} {n : Nat} (ha : ∀ j, j < n → p j = false) : (List.range n).find? p = none := by
  rw [List.find?_range_eq_none]
  exact fun j hj => by simp [ha j hj]
theorem atE_size (ps : List Ins) (h : ps.length < 1 ∨ 4096 < ps.length) : atE ps = (0, 60) := by unfold atE; rw [if_pos h]
theorem atE_one (ps : List Ins) (h : ¬ (ps.length < 1 ∨ 4096 < ps.length)) (k : Nat) (hk : k < ps.length) (ha : ∀ j, j < k → errAt ps j = 0) (he : errAt ps k ≠ 0) : atE ps = ((k : Int), errAt ps k) := by
  unfold atE
  rw [if_neg h, find_first hk (fun j hj => by rw [ha j hj]; rfl) (by simpa using he)]
theorem atE_end (ps : List Ins) (h : ¬ (ps.length < 1 ∨ 4096 < ps.length)) (ha : ∀ j, j < ps.length → errAt ps j = 0) (he : (clsOf (ps.getD (ps.length - 1) zeroI).code != 5) = true) : atE ps = ((ps.length : Int) - 1, 46) := by
  unfold atE
  rw [if_neg h, find_none (fun j hj => by rw [ha j hj]; rfl)]
  simp only [he, if_true]
theorem atE_rest (ps : List Ins) (h : ¬ (ps.length < 1 ∨ 4096 < ps.length)) (ha : ∀ j, j < ps.length → errAt ps j = 0) (he : (clsOf (ps.getD (ps.length - 1) zeroI).code != 5) = false) : atE ps = (match unsureL ps with | x :: _ => (x, 61) | [] => (0, 0)) := by
  unfold atE
  rw [if_neg h, find_none (fun j hj => by rw [ha j hj]; rfl)]
  simp only [he, Bool.false_eq_true, if_false]

set_option maxHeartbeats 4000000 in
set_option maxRecDepth 100000 in
theorem checkAt (A : Option Addr) (n c : Nat) (ps : List Ins) (w : World) (hp : ps.length = n) (hok : ∀ i ∈ ps, i.ok) (hb : n ≤ 100000) (hM : InM w A (pc ps)) :
    Calls Try.prog 37 #[.slice A n c] w fun e w' => e = .returned (.tuple #[.int .i64 (atE ps).1, .int .i64 (atE ps).2]) ∧ Ext w w' := by
  have hx := Ext.refl w
  by_cases h1 : n < 1
  · rw [atE_size ps (.inl (by omega))]
    have d1 : (n : Int) < 1 := by omega
    clear hp hok hM
    go_enter Try.func37, Try.ntmps37
    go_wp2
    go_ret2
    exact ⟨rfl, hx⟩
  by_cases h2 : 4096 < n
  · rw [atE_size ps (.inr (by omega))]
    have d1 : ¬ (n : Int) < 1 := by omega
    have d2 : (4096 : Int) < n := by omega
    clear hp hok hM
    go_enter Try.func37, Try.ntmps37
    go_wp2
    go_ret2
    exact ⟨rfl, hx⟩
  have hsz : ¬ (ps.length < 1 ∨ 4096 < ps.length) := by omega
  have d1 : ¬ (n : Int) < 1 := by omega
  have d2 : ¬ (4096 : Int) < n := by omega
  have A1 := Lib.hid (fun k hk ha he => atE_one ps hsz k hk ha he)
  have A2 := Lib.hid (fun ha he => atE_end ps hsz ha he)
  have A3 := Lib.hid (fun ha he => atE_rest ps hsz ha he)
  have HM := Lib.hid hM
  have HP := Lib.hid hp
  have HOK := Lib.hid hok
  have HU := Lib.hid (fun W h => unsureI A n c ps W hp hok h)
  rw [unsure_same ps hok] at HU
  have hw1 : IntKind.i64.wrap ((n : Int) - 1) = (n : Int) - 1 := IntWalk.i64_in _ (by omega)
  clear hp hok hM hsz
  go_enter Try.func37, Try.ntmps37
  go_wp2_with fail
  go_loopw [23] (fun i wr => ∃ k : Nat, k ≤ n ∧ i = .int .i64 k ∧ (∀ j, j < k → errAt ps j = 0) ∧ Ext w wr) (fun i _ => n - (intOf i).toNat)
  case atStart => exact ⟨0, by omega, rfl, fun j h => absurd h (by omega), hx⟩
  case round =>
    clear hx
    obtain ⟨k, hk, rfl, ha, hx⟩ := hrel
    have HA := Lib.hid ha
    clear ha
    by_cases hlt : k < n
    · have hkp : k < ps.length := by rw [HP.out]; exact hlt
      have hMr := HM.out.ext hx
      obtain ⟨b0, o0, rfl, _⟩ := prog_some hMr (by omega)
      obtain ⟨q0, q1, q2, q3⟩ := prog_cells hMr hkp
      have k1 : (0 : Int) ≤ k := by omega
      have k2 : (k : Int) < n := by omega
      have hw2 : IntKind.i64.wrap ((n : Int) - 1 - k) = (n : Int) - 1 - k := IntWalk.i64_in _ (by omega)
      have hget : ps.getD k zeroI = ps[k] := by rw [List.getD_eq_getElem?_getD, List.getElem?_eq_getElem hkp]; rfl
      have he : errAt ps k = oneE (ps.getD k zeroI) ((ps.length : Int) - 1 - k) := rfl
      rw [hget, HP.out] at he
      have H1 := Lib.hid (fun W => checkOne ps[k] (HOK.out _ (List.getElem_mem hkp)) ((n : Int) - 1 - k) W)
      rw [← he] at H1
      clear hget he hMr
      generalize ps[k] = P at *
      obtain ⟨co, jt, jf, kk⟩ := P
      simp only [Ins.val, Ins.cells] at H1
      dsimp only at q0 q1 q2 q3
      have HA1 := Lib.hid (fun he => A1.out k hkp HA.out he)
      have hx2 := hx.alloc (.cells #[.int .u16 co, .int .u8 jt, .int .u8 jf, .int .u32 kk] 32)
      generalize hev : errAt ps k = ev at *
      have HEV := Lib.hid hev
      clear hev
      go_wp2_with fail
      refine (H1.out _).mono ?_
      rintro e w1 ⟨rfl, hx3⟩
      have hx4 := hx2.trans hx3
      clear hx hx2 hx3 q0 q1 q2 q3 H1
      by_cases hz : ev = 0
      · subst hz
        go_wp2_with fail
        go_roundw
        case rel => exact ⟨k + 1, by omega, by go_num, fun j hj => (by rcases Nat.lt_succ_iff_lt_or_eq.1 hj with h | rfl; exact HA.out j h; exact HEV.out), hx4⟩
        case measure => simp [intOf]; omega
      · have hz2 : (ev != 0) = true := by simpa using hz
        have HR := Lib.hid (HA1.out hz)
        clear hz HA1 HEV
        go_wp2_with fail
        go_ret2
        rw [HR.out]
        exact ⟨rfl, hx4⟩
    · obtain rfl : k = n := by omega
      have hlp : k - 1 < ps.length := by rw [HP.out]; omega
      have hMr := HM.out.ext hx
      obtain ⟨b0, o0, rfl, _⟩ := prog_some hMr (by rw [HP.out]; omega)
      obtain ⟨q0, _, _, _⟩ := prog_cells hMr hlp
      have hget : ps.getD (ps.length - 1) zeroI = ps[k - 1] := by rw [List.getD_eq_getElem?_getD, HP.out, List.getElem?_eq_getElem hlp]; rfl
      have H2 := Lib.hid (fun W => of_any (ps[k - 1]).code W)
      have B2 := Lib.hid (A2.out (fun j hj => HA.out j (by rw [HP.out] at hj; exact hj)))
      have B3 := Lib.hid (A3.out (fun j hj => HA.out j (by rw [HP.out] at hj; exact hj)))
      rw [hget, HP.out] at B2
      rw [hget] at B3
      clear hget hMr A1 A2 A3
      generalize ps[k - 1] = P at *
      obtain ⟨co, jt, jf, kk⟩ := P
      dsimp only at q0 H2 B2 B3
      have hcl : (byE co).1.cls = clsOf co := rfl
      rw [hcl] at H2
      generalize clsOf co = q at *
      obtain ⟨m, hm⟩ : ∃ m : Nat, m = k - 1 := ⟨_, rfl⟩
      have hkm : (k : Int) - 1 = m := by omega
      rw [← hm] at q0
      rw [hkm] at B2 hw1
      have m1 : (0 : Int) ≤ m := by omega
      have m2 : (m : Int) < k := by omega
      clear hm
      by_cases hq : q = 5
      · subst hq
        have HR := Lib.hid (B3.out rfl)
        clear B2 B3
        go_wp2_with fail
        refine (H2.out _).mono ?_
        rintro e w1 ⟨rfl, hx3⟩
        replace hx := hx.trans hx3
        clear hx3 q0
        go_wp2_with fail
        refine (HU.out _ (HM.out.ext hx)).mono ?_
        rintro e w2 ⟨P, c', rfl, ho, hx3⟩
        replace hx := hx.trans hx3
        clear hx3 H2 HU
        generalize unsureL ps = ul at *
        rcases ul with _ | ⟨u0, ut⟩
        · simp only [List.length_nil] at ho
          go_wp2_with fail
          go_loopw [49] (fun i wr => i = .int .i64 0 ∧ Ext w wr) (fun _ _ => 0)
          case atStart => exact ⟨rfl, hx⟩
          case round =>
            clear hx ho
            obtain ⟨rfl, hx⟩ := hrel
            go_wp2_with fail
            go_ret2
            rw [HR.out]
            exact ⟨rfl, hx⟩
        · have hUm := own_inM ho
          obtain ⟨b1, o1, rfl, _⟩ := hUm.some_ (by simp [nums])
          have t0 := hUm.cell (k := 0) (u := .int .i64 u0) rfl
          simp only [Nat.add_zero] at t0
          have l1 : (0 : Int) < ((u0 :: ut).length : Int) := by rw [List.length_cons]; omega
          generalize (u0 :: ut).length = len at *
          go_wp2_with fail
          go_loopw [49] (fun i wr => i = .int .i64 0 ∧ wr = w2) (fun _ _ => 0)
          case atStart => exact ⟨rfl, rfl⟩
          case round =>
            obtain ⟨rfl, rfl⟩ := hrel
            go_wp2_with fail
            go_ret2
            rw [HR.out]
            exact ⟨rfl, hx⟩
      · have hq2 : (q != 5) = true := by simpa using hq
        have HR := Lib.hid (B2.out hq2)
        clear B2 B3 hq HU
        go_wp2_with fail
        refine (H2.out _).mono ?_
        rintro e w1 ⟨rfl, hx3⟩
        replace hx := hx.trans hx3
        clear hx3 q0
        go_wp2_with fail
        go_ret2
        rw [HR.out]
        exact ⟨rfl, hx⟩
end Go.Proofs.Ytkejcfbhikpibaa
