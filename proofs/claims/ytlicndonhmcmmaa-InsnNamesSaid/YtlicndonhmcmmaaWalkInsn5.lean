import Derived.Test.YtlicndonhmcmmaaAwake2
namespace Go.Proofs.Ytlicndonhmcmmaa
open Go.RowKit Go.ChangeShapes Go.WideShapes
set_option linter.unusedVariables false
set_option linter.unusedSimpArgs false

theorem name_back : ∀ e ∈ ents, nmE e.name = (e, true) := by
  intro e he
  rw [nm_same]
  unfold nmO findO
  rw [show ones.find? (fun x => x.name.toList == e.name.toList) = some e from name_key e he]
theorem ent_class : ∀ e ∈ ents, (e.cls != 0) = true ∧ (e.name.toList == []) = false := by
  intro e he
  simp only [ents, List.mem_cons, List.not_mem_nil, or_false] at he
  rcases he with rfl | rfl | rfl | rfl | rfl | rfl | rfl | rfl | rfl | rfl | rfl | rfl | rfl | rfl | rfl | rfl | rfl | rfl | rfl | rfl | rfl | rfl | rfl | rfl | rfl | rfl | rfl | rfl | rfl | rfl | rfl | rfl | rfl | rfl | rfl | rfl | rfl | rfl | rfl | rfl | rfl
  all_goals exact ⟨by kernel_rfl, by kernel_rfl⟩
theorem name_apart (e f : Ent) (he : e ∈ ents) (hf : f ∈ ents) (h : e.code ≠ f.code) : (e.name.toList == f.name.toList) = false := by
  rw [beq_eq_false_iff_ne]
  intro hn
  have h1 := name_back e he
  have h2 := name_back f hf
  unfold nmE at h1 h2
  rw [hn, h2] at h1
  injection h1 with h1
  subst h1
  exact h rfl
set_option maxHeartbeats 1000000 in
set_option maxRecDepth 100000 in
theorem insnNames_walk (a : Int) (ha : (Lit.int .u16 a).wf = true) (b : Int) (hb : (Lit.int .u16 b).wf = true) (W : World) :
    Calls Try.prog 18 #[.int .u16 a, .int .u16 b] W fun e w' => e = .returned (.bool true) ∧ Ext W w' := by
  clear ha hb
  have HA := Lib.hid (fun W => awake02 W)
  have K1 := Lib.hid (fun W => known_any a W)
  have K2 := Lib.hid (fun W => known_any b W)
  have M1 := Lib.hid (fun W => name_any a W)
  have M2 := Lib.hid (fun W => name_any b W)
  have O1 := Lib.hid (fun W => of_any a W)
  have C1 := Lib.hid (fun W => code_any (byE a).1.name W)
  have hx := Ext.refl W
  rcases by_cases_ a with h | ⟨e, he, rfl, h⟩
  · rw [h] at K1 M1 O1 C1
    dsimp only [noEnt] at K1 M1 O1 C1
    rw [show (nmE ⟨#[]⟩).1.code = 0 from by kernel_rfl, show (nmE ⟨#[]⟩).2 = false from by kernel_rfl] at C1
    clear h
    by_cases hab : a = b
    · have d1 : (a != b) = false := by simpa using hab
      clear hab
      go_enter Try.func18, Try.ntmps18
      go_wp2_with fail
      refine (HA.out _).mono ?_
      rintro e w1 ⟨rfl, hx'⟩
      replace hx := Ext.trans (by first | exact hx | exact hx.alloc _ | exact (hx.alloc _).alloc _ | exact hx.drew) hx'
      clear hx'
      go_wp2_with fail
      refine (K1.out _).mono ?_
      rintro e w2 ⟨rfl, hx'⟩
      replace hx := Ext.trans (by first | exact hx | exact hx.alloc _ | exact (hx.alloc _).alloc _ | exact hx.drew) hx'
      clear hx'
      go_wp2_with fail
      refine (M1.out _).mono ?_
      rintro e w3 ⟨rfl, hx'⟩
      replace hx := Ext.trans (by first | exact hx | exact hx.alloc _ | exact (hx.alloc _).alloc _ | exact hx.drew) hx'
      clear hx'
      go_wp2_with fail
      refine (K1.out _).mono ?_
      rintro e w4 ⟨rfl, hx'⟩
      replace hx := Ext.trans (by first | exact hx | exact hx.alloc _ | exact (hx.alloc _).alloc _ | exact hx.drew) hx'
      clear hx'
      go_wp2_with fail
      refine (O1.out _).mono ?_
      rintro e w5 ⟨rfl, hx'⟩
      replace hx := Ext.trans (by first | exact hx | exact hx.alloc _ | exact (hx.alloc _).alloc _ | exact hx.drew) hx'
      clear hx'
      go_wp2_with fail
      refine (M1.out _).mono ?_
      rintro e w6 ⟨rfl, hx'⟩
      replace hx := Ext.trans (by first | exact hx | exact hx.alloc _ | exact (hx.alloc _).alloc _ | exact hx.drew) hx'
      clear hx'
      go_wp2_with fail
      refine (C1.out _).mono ?_
      rintro e w7 ⟨rfl, hx'⟩
      replace hx := Ext.trans (by first | exact hx | exact hx.alloc _ | exact (hx.alloc _).alloc _ | exact hx.drew) hx'
      clear hx'
      go_wp2_with fail
      refine (K1.out _).mono ?_
      rintro e w8 ⟨rfl, hx'⟩
      replace hx := Ext.trans (by first | exact hx | exact hx.alloc _ | exact (hx.alloc _).alloc _ | exact hx.drew) hx'
      clear hx'
      go_wp2_with fail
      go_ret
      exact ⟨rfl, hx⟩
    · have d1 : (a != b) = true := by simpa using hab
      clear hab
      go_enter Try.func18, Try.ntmps18
      go_wp2_with fail
      refine (HA.out _).mono ?_
      rintro e w1 ⟨rfl, hx'⟩
      replace hx := Ext.trans (by first | exact hx | exact hx.alloc _ | exact (hx.alloc _).alloc _ | exact hx.drew) hx'
      clear hx'
      go_wp2_with fail
      refine (K1.out _).mono ?_
      rintro e w2 ⟨rfl, hx'⟩
      replace hx := Ext.trans (by first | exact hx | exact hx.alloc _ | exact (hx.alloc _).alloc _ | exact hx.drew) hx'
      clear hx'
      go_wp2_with fail
      refine (M1.out _).mono ?_
      rintro e w3 ⟨rfl, hx'⟩
      replace hx := Ext.trans (by first | exact hx | exact hx.alloc _ | exact (hx.alloc _).alloc _ | exact hx.drew) hx'
      clear hx'
      go_wp2_with fail
      refine (K1.out _).mono ?_
      rintro e w4 ⟨rfl, hx'⟩
      replace hx := Ext.trans (by first | exact hx | exact hx.alloc _ | exact (hx.alloc _).alloc _ | exact hx.drew) hx'
      clear hx'
      go_wp2_with fail
      refine (O1.out _).mono ?_
      rintro e w5 ⟨rfl, hx'⟩
      replace hx := Ext.trans (by first | exact hx | exact hx.alloc _ | exact (hx.alloc _).alloc _ | exact hx.drew) hx'
      clear hx'
      go_wp2_with fail
      refine (K1.out _).mono ?_
      rintro e w6 ⟨rfl, hx'⟩
      replace hx := Ext.trans (by first | exact hx | exact hx.alloc _ | exact (hx.alloc _).alloc _ | exact hx.drew) hx'
      clear hx'
      go_wp2_with fail
      refine (M1.out _).mono ?_
      rintro e w7 ⟨rfl, hx'⟩
      replace hx := Ext.trans (by first | exact hx | exact hx.alloc _ | exact (hx.alloc _).alloc _ | exact hx.drew) hx'
      clear hx'
      go_wp2_with fail
      refine (C1.out _).mono ?_
      rintro e w8 ⟨rfl, hx'⟩
      replace hx := Ext.trans (by first | exact hx | exact hx.alloc _ | exact (hx.alloc _).alloc _ | exact hx.drew) hx'
      clear hx'
      go_wp2_with fail
      refine (K1.out _).mono ?_
      rintro e w9 ⟨rfl, hx'⟩
      replace hx := Ext.trans (by first | exact hx | exact hx.alloc _ | exact (hx.alloc _).alloc _ | exact hx.drew) hx'
      clear hx'
      go_wp2_with fail
      go_ret
      exact ⟨rfl, hx⟩
  · rw [h] at K1 M1 O1 C1
    dsimp only at K1 M1 O1 C1
    rw [name_back e he] at C1
    obtain ⟨c1, c2⟩ := ent_class e he
    have c3 : e.name.toList ≠ [] := by simpa using c2
    have c4 : e.name.toList.isEmpty = false := by simpa using c3
    have c5 : (e.cls == 0) = false := by simpa using c1
    have HN := Lib.hid (fun f hf hne => name_apart e f he hf hne)
    have d0 : (e.code == e.code) = true := by simp
    clear h he
    by_cases hab : e.code = b
    · have d1 : (e.code != b) = false := by simpa using hab
      clear hab HN
      obtain ⟨ec, en, eq⟩ := e
      dsimp only at *
      go_enter Try.func18, Try.ntmps18
      go_wp2_with fail
      refine (HA.out _).mono ?_
      rintro e w1 ⟨rfl, hx'⟩
      replace hx := Ext.trans (by first | exact hx | exact hx.alloc _ | exact (hx.alloc _).alloc _ | exact hx.drew) hx'
      clear hx'
      go_wp2_with fail
      refine (K1.out _).mono ?_
      rintro e w2 ⟨rfl, hx'⟩
      replace hx := Ext.trans (by first | exact hx | exact hx.alloc _ | exact (hx.alloc _).alloc _ | exact hx.drew) hx'
      clear hx'
      go_wp2_with fail
      refine (M1.out _).mono ?_
      rintro e w3 ⟨rfl, hx'⟩
      replace hx := Ext.trans (by first | exact hx | exact hx.alloc _ | exact (hx.alloc _).alloc _ | exact hx.drew) hx'
      clear hx'
      go_wp2_with fail
      refine (K1.out _).mono ?_
      rintro e w4 ⟨rfl, hx'⟩
      replace hx := Ext.trans (by first | exact hx | exact hx.alloc _ | exact (hx.alloc _).alloc _ | exact hx.drew) hx'
      clear hx'
      go_wp2_with fail
      refine (O1.out _).mono ?_
      rintro e w5 ⟨rfl, hx'⟩
      replace hx := Ext.trans (by first | exact hx | exact hx.alloc _ | exact (hx.alloc _).alloc _ | exact hx.drew) hx'
      clear hx'
      go_wp2_with fail
      refine (M1.out _).mono ?_
      rintro e w6 ⟨rfl, hx'⟩
      replace hx := Ext.trans (by first | exact hx | exact hx.alloc _ | exact (hx.alloc _).alloc _ | exact hx.drew) hx'
      clear hx'
      go_wp2_with fail
      refine (C1.out _).mono ?_
      rintro e w7 ⟨rfl, hx'⟩
      replace hx := Ext.trans (by first | exact hx | exact hx.alloc _ | exact (hx.alloc _).alloc _ | exact hx.drew) hx'
      clear hx'
      go_wp2_with fail
      refine (K1.out _).mono ?_
      rintro e w8 ⟨rfl, hx'⟩
      replace hx := Ext.trans (by first | exact hx | exact hx.alloc _ | exact (hx.alloc _).alloc _ | exact hx.drew) hx'
      clear hx'
      go_wp2_with fail
      go_ret
      exact ⟨rfl, hx⟩
    · have d1 : (e.code != b) = true := by simpa using hab
      rcases by_cases_ b with h | ⟨f, hf, rfl, h⟩
      · rw [h] at K2 M2
        dsimp only [noEnt] at K2 M2
        clear hab HN h
        obtain ⟨ec, en, eq⟩ := e
        dsimp only at *
        go_enter Try.func18, Try.ntmps18
        go_wp2_with fail
        refine (HA.out _).mono ?_
        rintro e w1 ⟨rfl, hx'⟩
        replace hx := Ext.trans (by first | exact hx | exact hx.alloc _ | exact (hx.alloc _).alloc _ | exact hx.drew) hx'
        clear hx'
        go_wp2_with fail
        refine (K1.out _).mono ?_
        rintro e w2 ⟨rfl, hx'⟩
        replace hx := Ext.trans (by first | exact hx | exact hx.alloc _ | exact (hx.alloc _).alloc _ | exact hx.drew) hx'
        clear hx'
        go_wp2_with fail
        refine (M1.out _).mono ?_
        rintro e w3 ⟨rfl, hx'⟩
        replace hx := Ext.trans (by first | exact hx | exact hx.alloc _ | exact (hx.alloc _).alloc _ | exact hx.drew) hx'
        clear hx'
        go_wp2_with fail
        refine (K1.out _).mono ?_
        rintro e w4 ⟨rfl, hx'⟩
        replace hx := Ext.trans (by first | exact hx | exact hx.alloc _ | exact (hx.alloc _).alloc _ | exact hx.drew) hx'
        clear hx'
        go_wp2_with fail
        refine (O1.out _).mono ?_
        rintro e w5 ⟨rfl, hx'⟩
        replace hx := Ext.trans (by first | exact hx | exact hx.alloc _ | exact (hx.alloc _).alloc _ | exact hx.drew) hx'
        clear hx'
        go_wp2_with fail
        refine (K1.out _).mono ?_
        rintro e w6 ⟨rfl, hx'⟩
        replace hx := Ext.trans (by first | exact hx | exact hx.alloc _ | exact (hx.alloc _).alloc _ | exact hx.drew) hx'
        clear hx'
        go_wp2_with fail
        refine (K2.out _).mono ?_
        rintro e w7 ⟨rfl, hx'⟩
        replace hx := Ext.trans (by first | exact hx | exact hx.alloc _ | exact (hx.alloc _).alloc _ | exact hx.drew) hx'
        clear hx'
        go_wp2_with fail
        refine (M1.out _).mono ?_
        rintro e w8 ⟨rfl, hx'⟩
        replace hx := Ext.trans (by first | exact hx | exact hx.alloc _ | exact (hx.alloc _).alloc _ | exact hx.drew) hx'
        clear hx'
        go_wp2_with fail
        refine (C1.out _).mono ?_
        rintro e w9 ⟨rfl, hx'⟩
        replace hx := Ext.trans (by first | exact hx | exact hx.alloc _ | exact (hx.alloc _).alloc _ | exact hx.drew) hx'
        clear hx'
        go_wp2_with fail
        refine (K1.out _).mono ?_
        rintro e w10 ⟨rfl, hx'⟩
        replace hx := Ext.trans (by first | exact hx | exact hx.alloc _ | exact (hx.alloc _).alloc _ | exact hx.drew) hx'
        clear hx'
        go_wp2_with fail
        go_ret
        exact ⟨rfl, hx⟩
      · rw [h] at K2 M2
        have hn := HN.out f hf hab
        have hn2 : e.name.toList ≠ f.name.toList := by simpa using hn
        clear hab HN h hf
        obtain ⟨ec, en, eq⟩ := e
        obtain ⟨fc, fn, fq⟩ := f
        dsimp only at *
        go_enter Try.func18, Try.ntmps18
        go_wp2_with fail
        refine (HA.out _).mono ?_
        rintro e w1 ⟨rfl, hx'⟩
        replace hx := Ext.trans (by first | exact hx | exact hx.alloc _ | exact (hx.alloc _).alloc _ | exact hx.drew) hx'
        clear hx'
        go_wp2_with fail
        refine (K1.out _).mono ?_
        rintro e w2 ⟨rfl, hx'⟩
        replace hx := Ext.trans (by first | exact hx | exact hx.alloc _ | exact (hx.alloc _).alloc _ | exact hx.drew) hx'
        clear hx'
        go_wp2_with fail
        refine (M1.out _).mono ?_
        rintro e w3 ⟨rfl, hx'⟩
        replace hx := Ext.trans (by first | exact hx | exact hx.alloc _ | exact (hx.alloc _).alloc _ | exact hx.drew) hx'
        clear hx'
        go_wp2_with fail
        refine (K1.out _).mono ?_
        rintro e w4 ⟨rfl, hx'⟩
        replace hx := Ext.trans (by first | exact hx | exact hx.alloc _ | exact (hx.alloc _).alloc _ | exact hx.drew) hx'
        clear hx'
        go_wp2_with fail
        refine (O1.out _).mono ?_
        rintro e w5 ⟨rfl, hx'⟩
        replace hx := Ext.trans (by first | exact hx | exact hx.alloc _ | exact (hx.alloc _).alloc _ | exact hx.drew) hx'
        clear hx'
        go_wp2_with fail
        refine (K1.out _).mono ?_
        rintro e w6 ⟨rfl, hx'⟩
        replace hx := Ext.trans (by first | exact hx | exact hx.alloc _ | exact (hx.alloc _).alloc _ | exact hx.drew) hx'
        clear hx'
        go_wp2_with fail
        refine (K2.out _).mono ?_
        rintro e w7 ⟨rfl, hx'⟩
        replace hx := Ext.trans (by first | exact hx | exact hx.alloc _ | exact (hx.alloc _).alloc _ | exact hx.drew) hx'
        clear hx'
        go_wp2_with fail
        refine (M1.out _).mono ?_
        rintro e w8 ⟨rfl, hx'⟩
        replace hx := Ext.trans (by first | exact hx | exact hx.alloc _ | exact (hx.alloc _).alloc _ | exact hx.drew) hx'
        clear hx'
        go_wp2_with fail
        refine (M2.out _).mono ?_
        rintro e w9 ⟨rfl, hx'⟩
        replace hx := Ext.trans (by first | exact hx | exact hx.alloc _ | exact (hx.alloc _).alloc _ | exact hx.drew) hx'
        clear hx'
        go_wp2_with fail
        refine (M1.out _).mono ?_
        rintro e w10 ⟨rfl, hx'⟩
        replace hx := Ext.trans (by first | exact hx | exact hx.alloc _ | exact (hx.alloc _).alloc _ | exact hx.drew) hx'
        clear hx'
        go_wp2_with fail
        refine (C1.out _).mono ?_
        rintro e w11 ⟨rfl, hx'⟩
        replace hx := Ext.trans (by first | exact hx | exact hx.alloc _ | exact (hx.alloc _).alloc _ | exact hx.drew) hx'
        clear hx'
        go_wp2_with fail
        refine (K1.out _).mono ?_
        rintro e w12 ⟨rfl, hx'⟩
        replace hx := Ext.trans (by first | exact hx | exact hx.alloc _ | exact (hx.alloc _).alloc _ | exact hx.drew) hx'
        clear hx'
        go_wp2_with fail
        go_ret
        exact ⟨rfl, hx⟩
end Go.Proofs.Ytlicndonhmcmmaa
