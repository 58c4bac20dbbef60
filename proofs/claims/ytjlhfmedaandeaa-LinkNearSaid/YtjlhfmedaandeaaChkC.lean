import Derived.Test.YtjlhfmedaandeaaCelD
import Derived.Test.YtjlhfmedaandeaaChkB
import Derived.Test.YtjlhfmedaandeaaCelA
/- check.At and check.Check; the document's At. -/
namespace Go.Proofs.Ytjlhfmedaandeaa
open Go.RowKit Go.ChangeShapes Go.WideShapes
set_option linter.unusedVariables false
set_option linter.unusedSimpArgs false

/-- What is wrong with the instruction at a place. -/
def errAt (ps : List Ins) (i : Nat) : Int := oneE (ps.getD i zeroI) ((ps.length : Int) - 1 - i)
/-- Where something is wrong with a program, and what. -/
def atE (ps : List Ins) : Int × Int :=
  if ps.length < 1 ∨ 4096 < ps.length then (0, 60) else
  match (List.range ps.length).find? fun i => errAt ps i != 0 with
  | some i => ((i : Int), errAt ps i)
  | none => if clsOf (ps.getD (ps.length - 1) zeroI).code != 5 then ((ps.length : Int) - 1, 46) else
    match unsureL ps with
    | x :: _ => (x, 61)
    | [] => (0, 0)
theorem find_first {p : Nat → Bool} {n k : Nat} (hk : k < n) (ha : ∀ j, j < k → p j = false) (h : p k = true) : (List.range n).find? p = some k := by
  rw [List.find?_range_eq_some]
  exact ⟨h, by simpa using hk, fun j hj => by simp [ha j hj]⟩
theorem find_none {p : Nat → Bool} {n : Nat} (ha : ∀ j, j < n → p j = false) : (List.range n).find? p = none := by
  rw [List.find?_range_eq_none]
  exact fun j hj => by simp [ha j hj]
theorem atE_size (ps : List Ins) (h : ps.length < 1 ∨ 4096 < ps.length) : atE ps = (0, 60) := by unfold atE; rw [if_pos h]
theorem atE_one (ps : List Ins) (h : ¬ (ps.length < 1 ∨ 4096 < ps.length)) (k : Nat) (hk : k < ps.length) (ha : ∀ j, j < k → errAt ps j = 0) (he : errAt ps k ≠ 0) : atE ps = ((k : Int), errAt ps k) := by
  unfold atE
  rw [if_neg h, find_first hk (fun j hj => by rw [ha j hj]; rfl) (by simpa using he)]
theorem atE_end (ps : List Ins) (h : ¬ (ps.length < 1 ∨ 4096 < ps.length)) (ha : ∀ j, j < ps.length → errAt ps j = 0) (he : (clsOf (ps.getD (ps.length - 1) zeroI).code != 5) = true) : atE ps = ((ps.length : Int) - 1, 46) := by
  unfold atE
  rw [if_neg h, find_none (fun j hj => by rw [ha j hj]; rfl)]
  simp only [he, if_true]
theorem atE_rest (ps : List Ins) (h : ¬ (ps.length < 1 ∨ 4096 < ps.length)) (ha : ∀ j, j < ps.length → errAt ps j = 0) (he : (clsOf (ps.getD (ps.length - 1) zeroI).code != 5) = false) : atE ps = (match unsureL ps with | x :: _ => (x, 61) | [] => (0, 0)) := by
  unfold atE
  rw [if_neg h, find_none (fun j hj => by rw [ha j hj]; rfl)]
  simp only [he, Bool.false_eq_true, if_false]

set_option maxHeartbeats 4000000 in
set_option maxRecDepth 100000 in
theorem checkAt (A : Option Addr) (n c : Nat) (ps : List Ins) (w : World) (hp : ps.length = n) (hok : ∀ i ∈ ps, i.ok) (hb : n ≤ 100000) (hM : InM w A (pc ps)) :
    Calls Try.prog 61 #[.slice A n c] w fun e w' => e = .returned (.tuple #[.int .i64 (atE ps).1, .int .i64 (atE ps).2]) ∧ Ext w w' := by
  have hx := Ext.refl w
  by_cases h1 : n < 1
  · rw [atE_size ps (.inl (by omega))]
    have d1 : (n : Int) < 1 := by omega
    clear hp hok hM
    go_enter Try.func61, Try.ntmps61
    go_wp2
    go_ret2
    exact ⟨rfl, hx⟩
  by_cases h2 : 4096 < n
  · rw [atE_size ps (.inr (by omega))]
    have d1 : ¬ (n : Int) < 1 := by omega
    have d2 : (4096 : Int) < n := by omega
    clear hp hok hM
    go_enter Try.func61, Try.ntmps61
    go_wp2
    go_ret2
    exact ⟨rfl, hx⟩
  have hsz : ¬ (ps.length < 1 ∨ 4096 < ps.length) := by omega
  have d1 : ¬ (n : Int) < 1 := by omega
  have d2 : ¬ (4096 : Int) < n := by omega
  have A1 := Lib.hid (fun k hk ha he => atE_one ps hsz k hk ha he)
  have A2 := Lib.hid (fun ha he => atE_end ps hsz ha he)
  have A3 := Lib.hid (fun ha he => atE_rest ps hsz ha he)
  have HM := Lib.hid hM
  have HP := Lib.hid hp
  have HOK := Lib.hid hok
  have HU := Lib.hid (fun W h => unsureI A n c ps W hp hok h)
  rw [unsure_same ps hok] at HU
  have hw1 : IntKind.i64.wrap ((n : Int) - 1) = (n : Int) - 1 := IntWalk.i64_in _ (by omega)
  clear hp hok hM hsz
  go_enter Try.func61, Try.ntmps61
  go_wp2_with fail
  go_loopw [23] (fun i wr => ∃ k : Nat, k ≤ n ∧ i = .int .i64 k ∧ (∀ j, j < k → errAt ps j = 0) ∧ Ext w wr) (fun i _ => n - (intOf i).toNat)
  case atStart => exact ⟨0, by omega, rfl, fun j h => absurd h (by omega), hx⟩
  case round =>
    clear hx
    obtain ⟨k, hk, rfl, ha, hx⟩ := hrel
    have HA := Lib.hid ha
    clear ha
    by_cases hlt : k < n
    · have hkp : k < ps.length := by rw [HP.out]; exact hlt
      have hMr := HM.out.ext hx
      obtain ⟨b0, o0, rfl, _⟩ := prog_some hMr (by omega)
      obtain ⟨q0, q1, q2, q3⟩ := prog_cells hMr hkp
      have k1 : (0 : Int) ≤ k := by omega
      have k2 : (k : Int) < n := by omega
      have hw2 : IntKind.i64.wrap ((n : Int) - 1 - k) = (n : Int) - 1 - k := IntWalk.i64_in _ (by omega)
      have hget : ps.getD k zeroI = ps[k] := by rw [List.getD_eq_getElem?_getD, List.getElem?_eq_getElem hkp]; rfl
      have he : errAt ps k = oneE (ps.getD k zeroI) ((ps.length : Int) - 1 - k) := rfl
      rw [hget, HP.out] at he
      have H1 := Lib.hid (fun W => checkOne ps[k] (HOK.out _ (List.getElem_mem hkp)) ((n : Int) - 1 - k) W)
      rw [← he] at H1
      clear hget he hMr
      generalize ps[k] = P at *
      obtain ⟨co, jt, jf, kk⟩ := P
      simp only [Ins.val, Ins.cells] at H1
      dsimp only at q0 q1 q2 q3
      have HA1 := Lib.hid (fun he => A1.out k hkp HA.out he)
      have hx2 := hx.alloc (.cells #[.int .u16 co, .int .u8 jt, .int .u8 jf, .int .u32 kk] 43)
      generalize hev : errAt ps k = ev at *
      have HEV := Lib.hid hev
      clear hev
      go_wp2_with fail
      refine (H1.out _).mono ?_
      rintro e w1 ⟨rfl, hx3⟩
      have hx4 := hx2.trans hx3
      clear hx hx2 hx3 q0 q1 q2 q3 H1
      by_cases hz : ev = 0
      · subst hz
        go_wp2_with fail
        go_roundw
        case rel => exact ⟨k + 1, by omega, by go_num, fun j hj => (by rcases Nat.lt_succ_iff_lt_or_eq.1 hj with h | rfl; exact HA.out j h; exact HEV.out), hx4⟩
        case measure => simp [intOf]; omega
      · have hz2 : (ev != 0) = true := by simpa using hz
        have HR := Lib.hid (HA1.out hz)
        clear hz HA1 HEV
        go_wp2_with fail
        go_ret2
        rw [HR.out]
        exact ⟨rfl, hx4⟩
    · obtain rfl : k = n := by omega
      have hlp : k - 1 < ps.length := by rw [HP.out]; omega
      have hMr := HM.out.ext hx
      obtain ⟨b0, o0, rfl, _⟩ := prog_some hMr (by rw [HP.out]; omega)
      obtain ⟨q0, _, _, _⟩ := prog_cells hMr hlp
      have hget : ps.getD (ps.length - 1) zeroI = ps[k - 1] := by rw [List.getD_eq_getElem?_getD, HP.out, List.getElem?_eq_getElem hlp]; rfl
      have H2 := Lib.hid (fun W => of_any (ps[k - 1]).code W)
      have B2 := Lib.hid (A2.out (fun j hj => HA.out j (by rw [HP.out] at hj; exact hj)))
      have B3 := Lib.hid (A3.out (fun j hj => HA.out j (by rw [HP.out] at hj; exact hj)))
      rw [hget, HP.out] at B2
      rw [hget] at B3
      clear hget hMr A1 A2 A3
      generalize ps[k - 1] = P at *
      obtain ⟨co, jt, jf, kk⟩ := P
      dsimp only at q0 H2 B2 B3
      have hcl : (byE co).1.cls = clsOf co := rfl
      rw [hcl] at H2
      generalize clsOf co = q at *
      obtain ⟨m, hm⟩ : ∃ m : Nat, m = k - 1 := ⟨_, rfl⟩
      have hkm : (k : Int) - 1 = m := by omega
      rw [← hm] at q0
      rw [hkm] at B2 hw1
      have m1 : (0 : Int) ≤ m := by omega
      have m2 : (m : Int) < k := by omega
      clear hm
      by_cases hq : q = 5
      · subst hq
        have HR := Lib.hid (B3.out rfl)
        clear B2 B3
        go_wp2_with fail
        refine (H2.out _).mono ?_
        rintro e w1 ⟨rfl, hx3⟩
        replace hx := hx.trans hx3
        clear hx3 q0
        go_wp2_with fail
        refine (HU.out _ (HM.out.ext hx)).mono ?_
        rintro e w2 ⟨P, c', rfl, ho, hx3⟩
        replace hx := hx.trans hx3
        clear hx3 H2 HU
        generalize unsureL ps = ul at *
        rcases ul with _ | ⟨u0, ut⟩
        · simp only [List.length_nil] at ho
          go_wp2_with fail
          go_loopw [49] (fun i wr => i = .int .i64 0 ∧ Ext w wr) (fun _ _ => 0)
          case atStart => exact ⟨rfl, hx⟩
          case round =>
            clear hx ho
            obtain ⟨rfl, hx⟩ := hrel
            go_wp2_with fail
            go_ret2
            rw [HR.out]
            exact ⟨rfl, hx⟩
        · have hUm := own_inM ho
          obtain ⟨b1, o1, rfl, _⟩ := hUm.some_ (by simp [nums])
          have t0 := hUm.cell (k := 0) (u := .int .i64 u0) rfl
          simp only [Nat.add_zero] at t0
          have l1 : (0 : Int) < ((u0 :: ut).length : Int) := by rw [List.length_cons]; omega
          generalize (u0 :: ut).length = len at *
          go_wp2_with fail
          go_loopw [49] (fun i wr => i = .int .i64 0 ∧ wr = w2) (fun _ _ => 0)
          case atStart => exact ⟨rfl, rfl⟩
          case round =>
            obtain ⟨rfl, rfl⟩ := hrel
            go_wp2_with fail
            go_ret2
            rw [HR.out]
            exact ⟨rfl, hx⟩
      · have hq2 : (q != 5) = true := by simpa using hq
        have HR := Lib.hid (B2.out hq2)
        clear B2 B3 hq HU
        go_wp2_with fail
        refine (H2.out _).mono ?_
        rintro e w1 ⟨rfl, hx3⟩
        replace hx := hx.trans hx3
        clear hx3 q0
        go_wp2_with fail
        go_ret2
        rw [HR.out]
        exact ⟨rfl, hx⟩
end Go.Proofs.Ytjlhfmedaandeaa

/- check.Check; the document's At. -/
namespace Go.Proofs.Ytjlhfmedaandeaa
open Go.RowKit Go.ChangeShapes Go.WideShapes
set_option linter.unusedVariables false
set_option linter.unusedSimpArgs false

set_option maxRecDepth 100000 in
theorem checkCheck (A : Option Addr) (n c : Nat) (ps : List Ins) (w : World) (hp : ps.length = n) (hok : ∀ i ∈ ps, i.ok) (hb : n ≤ 100000) (hM : InM w A (pc ps)) :
    Calls Try.prog 39 #[.slice A n c] w fun e w' => e = .returned (.int .i64 (atE ps).2) ∧ Ext w w' := by
  have H := Lib.hid (checkAt A n c ps w hp hok hb hM)
  clear hp hok hM
  go_enter Try.func39, Try.ntmps39
  go_wp2_with fail
  refine (H.out).mono ?_
  rintro e w1 ⟨rfl, hx⟩
  go_wp2
  go_ret
  exact ⟨rfl, hx⟩
end Go.Proofs.Ytjlhfmedaandeaa

/- Plain laws of chapter 06: a program spoilt at a place; two programs one behind the other. No program is walked here. -/
namespace Go.Proofs.Ytjlhfmedaandeaa
open Go.RowKit
set_option linter.unusedVariables false
set_option linter.unusedSimpArgs false

theorem atE_first (ps : List Ins) (h : ¬ (ps.length < 1 ∨ 4096 < ps.length)) (k : Nat) (hk : k < ps.length) (he : errAt ps k ≠ 0) : ∃ j, j ≤ k ∧ atE ps = ((j : Int), errAt ps j) ∧ errAt ps j ≠ 0 := by
  induction k using Nat.strongRecOn with
  | _ k ih =>
    by_cases hall : ∀ j, j < k → errAt ps j = 0
    · exact ⟨k, Nat.le_refl _, atE_one ps h k hk hall he, he⟩
    · obtain ⟨j, hj⟩ : ∃ j, j < k ∧ errAt ps j ≠ 0 := by
        refine Classical.byContradiction fun hn => hall fun j hj => ?_
        exact Classical.byContradiction fun hz => hn ⟨j, hj, hz⟩
      obtain ⟨i, h1, h2, h3⟩ := ih j hj.1 (by omega) hj.2
      exact ⟨i, by omega, h2, h3⟩
/-- What a program that is taken is. -/
structure Taken (ps : List Ins) : Prop where
  l1 : 1 ≤ ps.length
  l2 : ps.length ≤ 4096
  ok : ∀ j, j < ps.length → errAt ps j = 0
  last : clsOf (ps.getD (ps.length - 1) zeroI).code = 5
  un : unsureL ps = []
theorem taken_of (ps : List Ins) (h : (atE ps).2 = 0) : Taken ps := by
  by_cases hs : ps.length < 1 ∨ 4096 < ps.length
  · rw [atE_size ps hs] at h
    exact absurd h (by decide)
  · have hall : ∀ j, j < ps.length → errAt ps j = 0 := fun j hj => by
      refine Classical.byContradiction fun hz => ?_
      obtain ⟨i, h1, h2, h3⟩ := atE_first ps hs j hj hz
      rw [h2] at h
      exact h3 h
    have hlast : clsOf (ps.getD (ps.length - 1) zeroI).code = 5 := by
      refine Classical.byContradiction fun hz => ?_
      rw [atE_end ps hs hall (by simpa using hz)] at h
      exact absurd h (by simp)
    refine ⟨by omega, by omega, hall, hlast, ?_⟩
    rw [atE_rest ps hs hall (by simpa using hlast)] at h
    cases hu : unsureL ps with
    | nil => rfl
    | cons x l => rw [hu] at h; exact absurd h (by simp)
theorem taken_at (ps : List Ins) (h : Taken ps) : atE ps = (0, 0) := by
  have hs : ¬ (ps.length < 1 ∨ 4096 < ps.length) := by have := h.l1; have := h.l2; omega
  rw [atE_rest ps hs h.ok (by simpa using h.last), h.un]

/-- More instructions behind: nothing more is wrong with one. -/
theorem oneE_mono (i : Ins) (l m : Int) (h0 : 0 ≤ l) (h : l ≤ m) (h1 : oneE i l = 0) : oneE i m = 0 := by
  unfold oneE at h1 ⊢
  split at h1
  · exact absurd h1 (by decide)
  split at h1
  · exact absurd h1 (by decide)
  split at h1
  · exact absurd h1 (by decide)
  split at h1
  · exact absurd h1 (by decide)
  split at h1
  · exact absurd h1 (by decide)
  split at h1
  · exact absurd h1 (by decide)
  rename_i g1 g2 g3 g4 g5 g6
  rw [if_neg g1, if_neg g2, if_neg g3, if_neg g4, if_neg g5, if_neg]
  unfold wr6 at g6 ⊢
  split
  · rename_i hc
    rw [if_pos hc] at g6
    simp at g6 ⊢
    omega
  · rename_i hc
    rw [if_neg hc] at g6
    simp at g6 ⊢
    intro h4
    have := g6 h4
    omega
/-- Where an instruction of which nothing is wrong leads to lies within. -/
theorem raw_in (i : Ins) (hi : i.ok) (k n : Nat) (hk : k < n) (h : oneE i ((n : Int) - 1 - k) = 0) (hl : k + 1 < n ∨ clsOf i.code = 5) : ∀ x ∈ wayRaw i k, x < n := by
  have hw : wr6 i (max ((n : Int) - 1 - k) 0) = false := by
    cases hw : wr6 i (max ((n : Int) - 1 - k) 0) with
    | false => rfl
    | true =>
      unfold oneE at h
      rw [hw] at h
      split at h
      · exact absurd h (by decide)
      split at h
      · exact absurd h (by decide)
      split at h
      · exact absurd h (by decide)
      split at h
      · exact absurd h (by decide)
      split at h
      · exact absurd h (by decide)
      · exact absurd h (by decide)
  have j0 := hi.2.1.1
  have f0 := hi.2.2.1.1
  have k0 := hi.2.2.2.1
  intro x hx
  unfold wayRaw at hx
  split at hx
  · cases hx
  rename_i h05
  have h5 : clsOf i.code ≠ 5 := fun e => h05 (by simp [e])
  have hl2 : k + 1 < n := hl.resolve_right h5
  split at hx
  · rename_i h4
    unfold wr6 at hw
    split at hx
    · rename_i hc
      rw [if_pos hc] at hw
      simp at hx hw
      omega
    · rename_i hc
      rw [if_neg hc] at hw
      rw [h4] at hw
      simp at hw
      split at hx
      · simp at hx; omega
      · simp at hx; omega
  · simp at hx
    omega
theorem takeWhile_all_in (n : Int) (L : List Int) (h : ∀ x ∈ L, x < n) : L.takeWhile (fun x => decide (x < n)) = L := takeWhile_all L (fun x hx => by simpa using h x hx)
/-- The two rows behind one another. -/
structure Both (a b : List Ins) : Prop where
  oka : ∀ i ∈ a, i.ok
  okb : ∀ i ∈ b, i.ok
  ta : Taken a
  len : a.length + b.length ≤ 4096
theorem both_get (a b : List Ins) (k : Nat) (hk : k < a.length) : (a ++ b).getD k zeroI = a.getD k zeroI := by
  rw [List.getD_eq_getElem?_getD, List.getD_eq_getElem?_getD, List.getElem?_append_left hk]
theorem both_next {a b : List Ins} (h : Both a b) (k : Nat) (hk : k < a.length) : nextL (a ++ b) (k : Int) = nextL a (k : Int) := by
  have hl := h.len
  have hk' : a.getD k zeroI = a[k] := by rw [List.getD_eq_getElem?_getD, List.getElem?_eq_getElem hk]; rfl
  have he := h.ta.ok k hk
  unfold errAt at he
  rw [hk'] at he
  have hlast : k + 1 < a.length ∨ clsOf a[k].code = 5 := by
    by_cases e : k + 1 < a.length
    · exact .inl e
    · right
      have := h.ta.last
      rw [show a.length - 1 = k by omega, hk'] at this
      exact this
  have hin := raw_in a[k] (h.oka _ (List.getElem_mem hk)) k a.length hk he hlast
  unfold nextL
  rw [if_neg (by rw [List.length_append]; omega), if_neg (by omega), Int.toNat_natCast, both_get a b k hk, hk']
  unfold wayL
  rw [takeWhile_all_in _ _ hin, takeWhile_all_in _ _ (fun x hx => by have := hin x hx; rw [List.length_append]; omega)]
theorem setAll_append (m : List Bool) : ∀ (ns : List Int) (l : List Bool), (∀ x ∈ ns, 0 ≤ x ∧ x < l.length) → setAll (l ++ m) ns = setAll l ns ++ m
  | [], l, _ => rfl
  | n :: ns, l, h => by
    have h0 := h n (by simp)
    have ih := setAll_append m ns (l.set n.toNat true) (fun x hx => by rw [List.length_set]; exact h x (by simp [hx]))
    simp only [setAll, List.foldl_cons] at ih ⊢
    rw [List.set_append_left _ _ (by omega)]
    exact ih
theorem rstart_append (n m : Nat) (h : 1 ≤ n) : rstart (n + m) = rstart n ++ List.replicate m false := by
  unfold rstart
  obtain ⟨k, rfl⟩ : ∃ k, n = k + 1 := ⟨n - 1, by omega⟩
  rw [show k + 1 + m = (k + m) + 1 by omega, List.replicate_succ, List.replicate_succ, List.set_cons_zero, List.set_cons_zero, List.cons_append, List.replicate_append_replicate]
theorem both_reach {a b : List Ins} (h : Both a b) : ∀ k, k ≤ a.length → rupto (a ++ b) k = rupto a k ++ List.replicate b.length false
  | 0, _ => by
    show rstart (a ++ b).length = rstart a.length ++ _
    rw [List.length_append, rstart_append _ _ h.ta.l1]
  | k + 1, hk => by
    have ih := both_reach h k (by omega)
    have hl := rupto_length a k
    rw [rupto_succ, rupto_succ, ih]
    unfold rstep
    have e : (rupto a k ++ List.replicate b.length false).getD k false = (rupto a k).getD k false := by
      rw [List.getD_eq_getElem?_getD, List.getD_eq_getElem?_getD, List.getElem?_append_left (by omega)]
    rw [e, both_next h k (by omega)]
    split
    · exact setAll_append _ _ _ (fun x hx => by have := nextL_bd a h.oka k x hx; omega)
    · rfl
theorem both_un {a b : List Ins} (h : Both a b) (c : Nat) : ∀ k, k ≤ a.length → uupto (a ++ b) c k = uupto a c k ++ List.replicate b.length false
  | 0, _ => by
    show rstart (a ++ b).length = rstart a.length ++ _
    rw [List.length_append, rstart_append _ _ h.ta.l1]
  | k + 1, hk => by
    have ih := both_un h c k (by omega)
    have hl := uupto_length a c k
    rw [uupto_succ, uupto_succ, ih]
    unfold ustep
    have e : (uupto a c k ++ List.replicate b.length false).getD k false = (uupto a c k).getD k false := by
      rw [List.getD_eq_getElem?_getD, List.getD_eq_getElem?_getD, List.getElem?_append_left (by omega)]
    rw [e, both_next h k (by omega), both_get a b k (by omega)]
    split
    · split
      · rfl
      · exact setAll_append _ _ _ (fun x hx => by have := nextL_bd a h.oka k x hx; omega)
    · rfl
theorem both_far {a b : List Ins} (h : Both a b) : ∀ d, d ≤ b.length → rupto (a ++ b) (a.length + d) = rupto a a.length ++ List.replicate b.length false
  | 0, _ => both_reach h _ (Nat.le_refl _)
  | d + 1, hd => by
    rw [← Nat.add_assoc, rupto_succ, both_far h d (by omega)]
    unfold rstep
    have e : (rupto a a.length ++ List.replicate b.length false).getD (a.length + d) false = false := by
      rw [List.getD_eq_getElem?_getD, List.getElem?_append_right (by rw [rupto_length]; omega), rupto_length]
      simp [show d < b.length by omega]
    rw [e]
    simp
theorem both_unsure {a b : List Ins} (h : Both a b) : unsureL (a ++ b) = [] := by
  have okab : ∀ i ∈ a ++ b, i.ok := fun i hi => by
    rcases List.mem_append.1 hi with g | g
    · exact h.oka i g
    · exact h.okb i g
  have hl := h.len
  have hn : ¬ 4096 < (a ++ b).length := by rw [List.length_append]; omega
  have hna : ¬ 4096 < a.length := by omega
  have hla : (sureL a).length = a.length := by unfold sureL; rw [if_neg hna, cellsUpto_length]
  unfold unsureL unU
  rw [List.filterMap_eq_nil_iff]
  intro j hj
  have hjl : j < a.length + b.length := by
    have : (sureL (a ++ b)).length = (a ++ b).length := by unfold sureL; rw [if_neg hn, cellsUpto_length]
    rw [this, List.length_append] at hj
    simpa using hj
  have hr : (reachL (a ++ b)).getD j false = (rupto a a.length ++ List.replicate b.length false).getD j false := by
    unfold reachL
    rw [if_neg hn, List.length_append, both_far h b.length (Nat.le_refl _)]
  by_cases hja : j < a.length
  · have hu := h.ta.un
    unfold unsureL unU at hu
    rw [List.filterMap_eq_nil_iff] at hu
    have hu := hu j (by rw [hla]; simpa using hja)
    have e1 : (reachL (a ++ b)).getD j false = (reachL a).getD j false := by
      rw [hr, List.getD_eq_getElem?_getD, List.getElem?_append_left (by rw [rupto_length]; exact hja), ← List.getD_eq_getElem?_getD]
      unfold reachL
      rw [if_neg hna]
    have e2 : (sureL (a ++ b)).getD j 0 = (sureL a).getD j 0 := by
      obtain ⟨x, h1, h2, h3⟩ := sureT_bit (a ++ b) okab hn j (by rw [List.length_append]; omega)
      obtain ⟨y, g1, g2, g3⟩ := sureT_bit a h.oka hna j hja
      rw [← sure_same _ okab, ← sure_same _ h.oka, h1, g1, eq_of_bits x y h2 g2 (fun c hc => ?_)]
      rw [h3 c hc, g3 c hc, both_un h c j (by omega)]
      rw [List.getD_eq_getElem?_getD, List.getD_eq_getElem?_getD, List.getElem?_append_left (by rw [uupto_length]; exact hja)]
    rw [e1, e2, both_get a b j hja]
    exact hu
  · have e1 : (reachL (a ++ b)).getD j false = false := by
      rw [hr, List.getD_eq_getElem?_getD, List.getElem?_append_right (by rw [rupto_length]; omega), rupto_length]
      simp [show j - a.length < b.length by omega]
    rw [e1]
    simp [badR]
theorem both_taken {a b : List Ins} (oka : ∀ i ∈ a, i.ok) (okb : ∀ i ∈ b, i.ok) (ha : Taken a) (hb : Taken b) (hl : a.length + b.length ≤ 4096) : Taken (a ++ b) := by
  have l1 := ha.l1
  have l2 := hb.l1
  refine ⟨by rw [List.length_append]; omega, by rw [List.length_append]; omega, fun j hj => ?_, ?_, both_unsure ⟨oka, okb, ha, hl⟩⟩
  · rw [List.length_append] at hj
    by_cases hja : j < a.length
    · have := ha.ok j hja
      unfold errAt at this ⊢
      rw [both_get a b j hja, List.length_append]
      exact oneE_mono _ _ _ (by omega) (by omega) this
    · have := hb.ok (j - a.length) (by omega)
      unfold errAt at this ⊢
      have e : (a ++ b).getD j zeroI = b.getD (j - a.length) zeroI := by
        rw [List.getD_eq_getElem?_getD, List.getD_eq_getElem?_getD, List.getElem?_append_right (by omega)]
      rw [e, List.length_append]
      rw [show (((a.length + b.length : Nat) : Int)) - 1 - j = (b.length : Int) - 1 - ((j - a.length : Nat) : Int) by omega]
      exact this
  · have := hb.last
    rw [List.length_append, List.getD_eq_getElem?_getD, List.getElem?_append_right (by omega), show a.length + b.length - 1 - a.length = b.length - 1 by omega, ← List.getD_eq_getElem?_getD]
    exact this
end Go.Proofs.Ytjlhfmedaandeaa
