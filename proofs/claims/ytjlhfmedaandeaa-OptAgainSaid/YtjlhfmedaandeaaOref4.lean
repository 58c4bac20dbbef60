import Derived.Test.YtjlhfmedaandeaaOref3
import Derived.Test.YtjlhfmedaandeaaAliveR
/- vestibuleref26: Dead, Opt. -/
namespace Go.Proofs.Ytjlhfmedaandeaa
open Go.RowKit Go.ChangeShapes Go.WideShapes
set_option linter.unusedVariables false
set_option linter.unusedSimpArgs false

theorem own_mono {w : World} {base base' : Nat} {e : TypeId} {size n : Nat} {v : Value} {xs : List Value} (h : w.ownsRow base e size v n xs) (hb : base' ≤ base) : w.ownsRow base' e size v n xs :=
  ⟨h.1, h.2.imp id (fun ⟨g, cap, cur, a, b, c⟩ => ⟨g, cap, cur, a, Nat.le_trans hb b, c⟩)⟩
def pls (ps : List Sy) (k : Nat) : List Int := (List.range ps.length).map fun i => if i < k then (placeN ps i : Int) else 0
theorem pls_len (ps : List Sy) (k : Nat) : (pls ps k).length = ps.length := by simp [pls]
theorem pls_get (ps : List Sy) (k i : Nat) (h : i < ps.length) : (pls ps k).getD i 0 = if i < k then (placeN ps i : Int) else 0 := by
  simp [pls, List.getD_eq_getElem?_getD, h]
theorem pls_zero (ps : List Sy) : pls ps 0 = List.replicate ps.length 0 := by
  unfold pls
  refine List.ext_getElem (by simp) fun i h1 h2 => by simp
theorem pls_set (ps : List Sy) (k : Nat) (h : k < ps.length) : (pls ps k).set k (placeN ps k : Int) = pls ps (k + 1) := by
  refine List.ext_getElem (by rw [List.length_set, pls_len, pls_len]) fun i h1 h2 => ?_
  rw [List.getElem_set]
  simp only [pls, List.getElem_map, List.getElem_range]
  by_cases e : k = i
  · subst e
    rw [if_pos rfl, if_pos (by omega)]
  · rw [if_neg e]
    by_cases e2 : i < k
    · rw [if_pos e2, if_pos (by omega)]
    · rw [if_neg e2, if_neg (by omega)]
theorem aliveT_get {ps : List Sy} (hY : MayL ps) (i : Nat) (h : i < ps.length) : (aliveT ps)[i]? = some (aliveAt ps i) := by
  rw [alive_same hY]
  simp [h]
def deadUp (ps : List Sy) (m : Nat) : List Sy := ((List.range m).filter (aliveAt ps)).map fun i => mv (placeT ps) (ps.getD i zeroS)
theorem deadUp_len (ps : List Sy) (m : Nat) : (deadUp ps m).length = placeN ps m := by unfold deadUp placeN; rw [List.length_map]
theorem deadUp_yes (ps : List Sy) (m : Nat) (h : aliveAt ps m = true) : deadUp ps (m + 1) = deadUp ps m ++ [mv (placeT ps) (ps.getD m zeroS)] := by
  unfold deadUp
  rw [List.range_succ, List.filter_append, List.map_append]
  simp [h]
theorem deadUp_no (ps : List Sy) (m : Nat) (h : aliveAt ps m = false) : deadUp ps (m + 1) = deadUp ps m := by
  unfold deadUp
  rw [List.range_succ, List.filter_append, List.map_append]
  simp [h]
theorem info_int5 : (Try.prog.info? 3).map (fun i => (i.zero, i.size, i.bytes)) = some (some (.int .i64 0), 1, 8) := by kernel_rfl
theorem made_ints5 (n : Nat) : madeCells #[Value.int .i64 0] n = (nums .i64 (List.replicate n 0)).toArray := by
  apply Array.toList_inj.1
  rw [toList_madeCells_one]
  simp [nums]
theorem mk_ints (n : Nat) (n2 : n ≤ 131072) (w : World) : (Instr.makeSlice 67 (.int .i64 (n : Int)) (.int .i64 (n : Int))).run Try.prog w = .ok (.slice (some ⟨w.heap.size, 0, none⟩) n n) (w.alloc (.cells (nums .i64 (List.replicate n 0)).toArray 3)) := by
  rw [← made_ints5]
  exact make_run1 67 3 (.int .i64 0) 8 Try.underlying67 info_int5 rfl .i64 .i64 n n (Nat.le_refl _) (by omega) (by omega) w
theorem blk_num {W : World} {g : Nat} {l : List Int} (h : Blk W g 3 (nums .i64 l).toArray) (k : Nat) (hk : k < l.length) : W.cell? ⟨g, k, none⟩ = some (.int .i64 (l.getD k 0)) :=
  (h.cell k).trans (by rw [List.getElem?_toArray, nums_at hk, List.getD_eq_getElem?_getD, List.getElem?_eq_getElem hk]; rfl)
theorem blk_numset {W : World} {g : Nat} {l : List Int} (h : Blk W g 3 (nums .i64 l).toArray) (k : Nat) (v : Int) : Blk (W.setCell ⟨g, k, none⟩ (.int .i64 v)) g 3 (nums .i64 (l.set k v)).toArray := by
  have := h.set_ k (.int .i64 v)
  rwa [show (nums .i64 l).toArray.setIfInBounds k (.int .i64 v) = (nums .i64 (l.set k v)).toArray by simp [nums, List.map_set]] at this
theorem blk_bool {W : World} {g : Nat} {l : List Bool} {b : Bool} (h : Blk W g 4 (bools l)) (k : Nat) (hk : l[k]? = some b) : W.cell? ⟨g, k, none⟩ = some (.bool b) := by
  obtain ⟨h1, h2⟩ := List.getElem?_eq_some_iff.1 hk
  have := (h.cell k).trans (bools_at l k h1)
  rwa [h2] at this
set_option maxHeartbeats 4000000 in
set_option maxRecDepth 100000 in
theorem refDeadI (b o n c : Nat) (ps : List Sy) (w : World) (hp : ps.length = n) (hY : MayL ps) (hM : InM w (some ⟨b, o, none⟩) (sc ps)) :
    Calls Try.prog 31 #[.slice (some ⟨b, o, none⟩) n c] w fun e w' => ∃ A c', e = .returned (.slice A (placeN ps n) c') ∧ w'.ownsRow w.heap.size 32 4 (.slice A (placeN ps n) c') (placeN ps n) (sc (deadL ps)) ∧ Ext w w' := by
  have n1 : 1 ≤ n := by have := hY.l1; omega
  have n2 : n ≤ 131072 := by have := hY.l2; omega
  have hmk := mk_ints n n2
  obtain ⟨i0, hi, hz0, hz1, hz2⟩ := info_parts info_sym
  have HI := Lib.hid hi; have HZ0 := Lib.hid hz0; have HZ1 := Lib.hid hz1; have HZ2 := Lib.hid hz2
  have HC := Lib.hid (refAlive (some ⟨b, o, none⟩) n c ps w hp hY hM)
  have HM := Lib.hid hM
  have HP := Lib.hid hp
  have HY := Lib.hid hY
  have HPZ := Lib.hid (show (nums .i64 (List.replicate n 0)).toArray = (nums .i64 (pls ps 0)).toArray from by rw [pls_zero, hp])
  clear hi hz0 hz1 hz2 hp hY hM
  go_enter Try.func31, Try.ntmps31
  go_wp2_with fail
  refine (HC.out).mono ?_
  rintro e w1 ⟨rfl, hal, hx1⟩
  have HAL := Lib.hid hal
  have hbp := Blk.new w1 3 (nums .i64 (List.replicate n 0)).toArray
  rw [HPZ.out] at hbp
  have HBP := Lib.hid hbp
  have HE1 := Lib.hid ((Ext.refl w1).alloc (.cells (nums .i64 (List.replicate n 0)).toArray 3))
  clear hal hbp HC
  go_wp2_with fail
  go_loopw [5, 6] (fun v it W => ∃ k : Nat, k ≤ n ∧ v = .int .i64 (placeN ps k) ∧ it = .int .i64 k ∧ Ext w1 W ∧ Blk W w1.heap.size 3 (nums .i64 (pls ps k)).toArray ) (fun _ it _ => n - (intOf it).toNat)
  case atStart =>
    have hrep : Array.replicate n (Value.int .i64 0) = (nums .i64 (List.replicate n 0)).toArray := by simp [nums]
    rw [hrep]
    refine ⟨0, Nat.zero_le _, rfl, rfl, HE1.out, ?_⟩
    rw [HPZ.out]
    exact HBP.out
  case round =>
    obtain ⟨k, hk, rfl, rfl, hy, hB⟩ := hrel
    by_cases hlt : k < n
    · have hlt2 := hlt
      have hkp : k < ps.length := by rw [HP.out]; exact hlt
      have cb := blk_bool (HAL.out.ext hy) k (aliveT_get HY.out k hkp)
      have hcp := blk_num hB k (by rw [pls_len]; exact hkp)
      have hfp := hB.frozen k
      have hset := blk_numset hB k (placeN ps k)
      rw [pls_set ps k hkp] at hset
      have hpl := placeN_le ps k
      have hps := placeN_succ ps k
      have p0 : (0 : Int) ≤ placeN ps k := by omega
      have p1 : (placeN ps k : Int) ≤ 131072 := by omega
      have k1 : (0 : Int) ≤ k := by omega
      have k2 : (k : Int) < n := by omega
      have HS := Lib.hid hset
      have HPS := Lib.hid hps
      have hyx := hy.set (p := ⟨w1.heap.size, k, none⟩) (Nat.le_refl _) (.int .i64 (placeN ps k))
      have HYX := Lib.hid hyx
      have cb2 := blk_bool (HAL.out.ext hyx) k (aliveT_get HY.out k hkp)
      generalize (pls ps k).getD k 0 = z0 at hcp
      generalize placeN ps k = pn at *
      clear hset hps hpl hkp hB hy hyx
      rcases hv : aliveAt ps k with _ | _
      · rw [hv] at cb cb2 HPS
        rw [if_neg (by decide)] at HPS
        go_wp2_with fail
        go_roundw
        case rel => exact ⟨k + 1, by omega, by rw [HPS.out]; rfl, by go_num, HYX.out, HS.out⟩
        case measure => simp [intOf]; omega
      · rw [hv] at cb cb2 HPS
        rw [if_pos rfl] at HPS
        go_wp2_with fail
        go_roundw
        case rel => exact ⟨k + 1, by omega, by rw [HPS.out]; go_num, by go_num, HYX.out, HS.out⟩
        case measure => simp [intOf]; omega
    · obtain rfl : k = n := by omega
      have HB := Lib.hid hB
      have HYE := Lib.hid hy
      have hgw2 : w.heap.size ≤ wr.heap.size := by have := hy.size; have := hx1.size; omega
      have HGW := Lib.hid hgw2
      obtain ⟨w2, rfl⟩ : ∃ w2 : World, w2 = wr := ⟨_, rfl⟩
      have HDL0 := Lib.hid (deadUp_len ps)
      have HDY := Lib.hid (deadUp_yes ps)
      have HDN := Lib.hid (deadUp_no ps)
      have HD0 := Lib.hid (show deadUp ps 0 = [] from rfl)
      have HDA := Lib.hid (show sc (deadUp ps k) = sc (deadL ps) from by unfold deadUp deadL; rw [HP.out])
      clear hB hy HE1 HBP hmk HPZ hgw2
      generalize w1.heap.size = gp at *
      go_wp2_with fail
      go_loopw [7, 8] (fun v it W => ∃ (j : Nat) (A1 : Option Addr) (c1 : Nat), j ≤ k ∧ it = .int .i64 j ∧ (v = .slice A1 (placeN ps j) c1 ∧ W.ownsRow w2.heap.size 32 4 (.slice A1 (placeN ps j) c1) (placeN ps j) (sc (deadUp ps j))) ∧ Ext w2 W) (fun _ it _ => k - (intOf it).toNat)
      case atStart => exact ⟨0, none, 0, Nat.zero_le _, rfl, ⟨rfl, by rw [HD0.out]; exact World.ownsRow_nil _ _ _ _⟩, Ext.refl _⟩
      case round =>
        obtain ⟨j, A1, c1, hj, rfl, ⟨rfl, ho⟩, hy⟩ := hrel
        by_cases hlt2 : j < k
        · have hjp : j < ps.length := by rw [HP.out]; exact hlt2
          have hK := kind_of (HY.out.one j hjp)
          rw [HP.out] at hK
          have hgd : ps.getD j zeroS = ps[j] := by simp [List.getD_eq_getElem?_getD, hjp]
          have hdy := HDY.out j
          have hdn := HDN.out j
          have HDL := Lib.hid (HDL0.out j)
          have hps := placeN_succ ps j
          have hpn := placeN_le ps j
          have PC := Lib.hid (fun W' (h : Ext w2 W') => sym_cells (HM.out.ext ((hx1.trans HYE.out).trans h)) hjp)
          have PP := Lib.hid (fun W' (h : Ext w2 W') (t : Nat) (ht : t < k) => (blk_num (HB.out.ext h) t (by rw [pls_len, HP.out]; exact ht)).trans (by rw [pls_get ps k t (by rw [HP.out]; exact ht), if_pos ht]))
          have PA := Lib.hid (fun W' (h : Ext w2 W') => blk_bool (HAL.out.ext (HYE.out.trans h)) j (aliveT_get HY.out j hjp))
          have HJ := Lib.hid (fun s W' => refJump26 s W')
          have HAs := Lib.hid (fun s W' => refAsks26 s W')
          rw [hgd] at hK hdy
          clear hgd
          generalize ps[j] = s at *
          clear hjp
          obtain ⟨co, kk, th, el⟩ := s
          dsimp only at *
          have j0 : (0 : Int) ≤ j := by omega
          have j1 : (j : Int) < k := by omega
          have j2 : (j : Int) ≤ 131072 := by omega
          have hPT : ∀ t : Nat, placeT ps t = (placeN ps t : Int) := fun t => by unfold placeT; rw [Int.toNat_natCast]
          have HPT := Lib.hid hPT
          have hpl := fun t => placeN_le ps t
          have HPL := Lib.hid hpl
          obtain ⟨q0, q1, q2, q3⟩ := PC.out _ hy
          have bs := Blk.new wr 32 #[.int .u16 co, .int .u32 kk, .int .i64 th, .int .i64 el]
          have hE0 := (Ext.refl wr).alloc (.cells #[.int .u16 co, .int .u32 kk, .int .i64 th, .int .i64 el] 32)
          have s0 := (bs).cell 0
          have s1 := (bs).cell 1
          have s2 := (bs).cell 2
          have s3 := (bs).cell 3
          have HDYX := Lib.hid hdy
          have HDNX := Lib.hid hdn
          have HPSX := Lib.hid hps
          clear hdy hdn hps hPT hpl
          by_cases hA : asksC co = true
          · have hq := asks_code.1 hA
            obtain ⟨⟨t, rfl, ht⟩, ⟨u, rfl, hu⟩⟩ : (∃ t : Nat, th = t ∧ t < k) ∧ (∃ u : Nat, el = u ∧ u < k) := by
              rcases hK with ⟨q, _, _, _⟩ | ⟨q, _, _⟩ | ⟨q, _, _⟩ | ⟨q, _, _, q1⟩ | ⟨q, q1, q2⟩
              · dsimp only at q; omega
              · dsimp only at q; omega
              · dsimp only at q; omega
              · dsimp only at q; omega
              · dsimp only at q1 q2; exact ⟨⟨th.toNat, by omega, by omega⟩, ⟨el.toNat, by omega, by omega⟩⟩
            have hmv : mv (placeT ps) ⟨co, kk, (t : Int), (u : Int)⟩ = ⟨co, kk, placeN ps t, placeN ps u⟩ := by rw [mv_asks (s := ⟨co, kk, (t : Int), (u : Int)⟩) _ hA, ← HPT.out t, ← HPT.out u]
            have HMV := Lib.hid hmv
            have HJ1 := Lib.hid (HJ.out ⟨co, kk, (t : Int), (u : Int)⟩)
            have HA1 := Lib.hid (HAs.out ⟨co, kk, (placeN ps t : Int), (u : Int)⟩)
            have hj : jumpS ⟨co, kk, (t : Int), (u : Int)⟩ = true := by unfold jumpS; rw [hA]; simp
            rw [hj] at HJ1
            dsimp only [Sy.val, Sy.cells] at HJ1 HA1
            rw [hA] at HA1
            have PT := Lib.hid (fun W' h => PP.out W' h t ht)
            have PU := Lib.hid (fun W' h => PP.out W' h u hu)
            have t0 : (0 : Int) ≤ t := by omega
            have t1 : (t : Int) < k := by omega
            have u0 : (0 : Int) ≤ u := by omega
            have u1 : (u : Int) < k := by omega
            generalize placeN ps t = x at *
            generalize placeN ps u = y at *
            clear hK hA hq hj hmv HJ HAs PP
            go_wp2_with fail
            refine (HJ1.out _).mono ?_
            rintro e w9 ⟨rfl, hx9⟩
            have bs9 := bs.ext hx9
            clear s0 s1 s2 s3 q0 q1 q2 q3
            have s0 := (bs9).cell 0
            have s1 := (bs9).cell 1
            have s2 := (bs9).cell 2
            have s3 := (bs9).cell 3
            have cp9 := PT.out _ (hy.trans (hE0.trans hx9))
            have f9 := bs9.frozen 2
            have bs10 := bs9.set_ 2 (.int .i64 (x : Int))
            have hE10 := (hE0.trans hx9).set (p := ⟨wr.heap.size, 2, none⟩) (Nat.le_refl _) (.int .i64 (x : Int))
            have BS10 := Lib.hid bs10
            have E10 := Lib.hid hE10
            clear bs10 hE10 bs9
            go_wp2_with fail
            clear cp9 f9 s0 s1 s2 s3
            have bs10 := BS10.out
            have s0 := (bs10).cell 0
            have s1 := (bs10).cell 1
            have s2 := (bs10).cell 2
            have s3 := (bs10).cell 3
            go_wp2_with fail
            refine (HA1.out _).mono ?_
            rintro e w12 ⟨rfl, hx12⟩
            have bs12 := BS10.out.ext hx12
            clear s0 s1 s2 s3
            have cp12 := PU.out _ ((hy.trans E10.out).trans hx12)
            have f12 := bs12.frozen 3
            have s0 := (bs12).cell 0
            have s1 := (bs12).cell 1
            have s2 := (bs12).cell 2
            have s3 := (bs12).cell 3
            have bs13 := bs12.set_ 3 (.int .i64 (y : Int))
            have hE13 := (E10.out.trans hx12).set (p := ⟨wr.heap.size, 3, none⟩) (Nat.le_refl _) (.int .i64 (y : Int))
            have BS13 := Lib.hid bs13
            have E13 := Lib.hid hE13
            clear bs13 hE13 bs12 bs10
            have z0 := BS13.out.cell 0
            have z1 := BS13.out.cell 1
            have z2 := BS13.out.cell 2
            have z3 := BS13.out.cell 3
            rcases hv : aliveAt ps j with _ | _
            · have HD1 := Lib.hid (HDNX.out hv)
              have HP1 := Lib.hid (HPSX.out.trans (by rw [hv, if_neg (by decide), Nat.add_zero]))
              have ca := PA.out _ (hy.trans E13.out)
              rw [hv] at ca
              have HO2 := Lib.hid (own_ext ho E13.out)
              clear ho
              go_wp2_with fail
              go_roundw
              case rel => exact ⟨j + 1, A1, c1, by omega, by go_num, ⟨by rw [HP1.out], by rw [HP1.out, HD1.out]; exact HO2.out⟩, hy.trans E13.out⟩
              case measure => simp [intOf]; omega
            · have HD1 := Lib.hid ((HDYX.out hv).trans (by rw [HMV.out]))
              have HP1 := Lib.hid (HPSX.out.trans (by rw [hv, if_pos rfl]))
              have ca := PA.out _ (hy.trans E13.out)
              rw [hv] at ca
              clear hv
              have hl1 : (sc (deadUp ps j)).length = (placeN ps j) * 4 := by rw [sc_length]; have := HDL.out; omega
              have ho7 := own_ext ho ((E13.out).alloc (.cells #[.int .u16 co, .int .u32 kk, .int .i64 (x : Int), .int .i64 (y : Int)] 32))
              have hy7 := ((hy).trans E13.out).alloc (.cells #[.int .u16 co, .int .u32 kk, .int .i64 (x : Int), .int .i64 (y : Int)] 32)
              have hrow : InM (((w12.setCell ⟨wr.heap.size, 3, none⟩ (.int .i64 (y : Int)))).alloc (.cells #[.int .u16 co, .int .u32 kk, .int .i64 (x : Int), .int .i64 (y : Int)] 32)) (some ⟨w12.heap.size, 0, none⟩) (sc [⟨co, kk, x, y⟩]) := InM.ofBlk (Blk.new_ (by first | rfl | simp)) rfl
              have hb1 : (placeN ps j) + 1 ≤ 1000000 := by omega
              have hb0 : 24 ≤ 10000 := by decide
              go_wp2_with (refine wpList_app rfl (.tmp 61) (.tmp 63) 22 rfl w2.heap.size 32 i0 _ 4 24 Try.underlying22 HI.out HZ0.out HZ1.out HZ2.out rfl (by decide) A1 ((placeN ps j)) c1 (sc (deadUp ps j)) rfl ho7 _ 1 1 (sc [⟨co, kk, x, y⟩]) rfl rfl hrow (sc_one _) hb1 hb0 hy7.size ?_; intro A8 c8 w8 ho8 hg8 hzz; have hx8 := hy7.app ho7 (Nat.le_refl _) hg8; rw [← sc_append] at ho8; clear hg8 hzz)
              clear ho7 hy7 hrow hl1 hb0 hb1
              go_roundw
              case rel => exact ⟨j + 1, A8, c8, by omega, by go_num, ⟨by rw [HP1.out], by rw [HP1.out, HD1.out]; exact ho8⟩, hx8⟩
              case measure => simp [intOf]; omega
          · have hA' : asksC co = false := by simpa using hA
            by_cases h5 : co = 5
            · subst h5
              obtain ⟨t, rfl, ht⟩ : ∃ t : Nat, th = t ∧ t < k := by
                rcases hK with ⟨q, _, _, _⟩ | ⟨q, _, _⟩ | ⟨q, _, _⟩ | ⟨q, _, _, q1⟩ | ⟨q, q1, q2⟩
                · dsimp only at q; omega
                · dsimp only at q; omega
                · dsimp only at q; omega
                · dsimp only at q1; exact ⟨th.toNat, by omega, by omega⟩
                · dsimp only at q; omega
              have HMV := Lib.hid (show mv (placeT ps) ⟨5, kk, (t : Int), el⟩ = ⟨5, kk, placeN ps t, el⟩ from by rw [mv_ja (s := ⟨5, kk, (t : Int), el⟩) _ rfl, ← HPT.out t])
              have HJ1 := Lib.hid (HJ.out ⟨5, kk, (t : Int), el⟩)
              have HA1 := Lib.hid (HAs.out ⟨5, kk, (placeN ps t : Int), el⟩)
              have hj : jumpS ⟨5, kk, (t : Int), el⟩ = true := rfl
              rw [hj] at HJ1
              dsimp only [Sy.val, Sy.cells] at HJ1 HA1
              rw [hA'] at HA1
              have PT := Lib.hid (fun W' h => PP.out W' h t ht)
              have t0 : (0 : Int) ≤ t := by omega
              have t1 : (t : Int) < k := by omega
              generalize placeN ps t = x at *
              clear hK hA hA' hj HJ HAs PP
              go_wp2_with fail
              refine (HJ1.out _).mono ?_
              rintro e w9 ⟨rfl, hx9⟩
              have bs9 := bs.ext hx9
              clear s0 s1 s2 s3 q0 q1 q2 q3
              have s0 := (bs9).cell 0
              have s1 := (bs9).cell 1
              have s2 := (bs9).cell 2
              have s3 := (bs9).cell 3
              have cp9 := PT.out _ (hy.trans (hE0.trans hx9))
              have f9 := bs9.frozen 2
              have bs10 := bs9.set_ 2 (.int .i64 (x : Int))
              have hE10 := (hE0.trans hx9).set (p := ⟨wr.heap.size, 2, none⟩) (Nat.le_refl _) (.int .i64 (x : Int))
              have BS10 := Lib.hid bs10
              have E10 := Lib.hid hE10
              clear bs10 hE10 bs9
              go_wp2_with fail
              clear cp9 f9 s0 s1 s2 s3
              have bs10 := BS10.out
              have s0 := (bs10).cell 0
              have s1 := (bs10).cell 1
              have s2 := (bs10).cell 2
              have s3 := (bs10).cell 3
              go_wp2_with fail
              refine (HA1.out _).mono ?_
              rintro e w12 ⟨rfl, hx12⟩
              have bs12 := BS10.out.ext hx12
              have E12 := Lib.hid (E10.out.trans hx12)
              clear s0 s1 s2 s3 bs10
              have s0 := (bs12).cell 0
              have s1 := (bs12).cell 1
              have s2 := (bs12).cell 2
              have s3 := (bs12).cell 3
              rcases hv : aliveAt ps j with _ | _
              · have HD1 := Lib.hid (HDNX.out hv)
                have HP1 := Lib.hid (HPSX.out.trans (by rw [hv, if_neg (by decide), Nat.add_zero]))
                have ca := PA.out _ (hy.trans E12.out)
                rw [hv] at ca
                have HO2 := Lib.hid (own_ext ho E12.out)
                clear ho
                go_wp2_with fail
                go_roundw
                case rel => exact ⟨j + 1, A1, c1, by omega, by go_num, ⟨by rw [HP1.out], by rw [HP1.out, HD1.out]; exact HO2.out⟩, hy.trans E12.out⟩
                case measure => simp [intOf]; omega
              · have HD1 := Lib.hid ((HDYX.out hv).trans (by rw [HMV.out]))
                have HP1 := Lib.hid (HPSX.out.trans (by rw [hv, if_pos rfl]))
                have ca := PA.out _ (hy.trans E12.out)
                rw [hv] at ca
                clear hv
                have hl1 : (sc (deadUp ps j)).length = (placeN ps j) * 4 := by rw [sc_length]; have := HDL.out; omega
                have ho7 := own_ext ho ((E12.out).alloc (.cells #[.int .u16 5, .int .u32 kk, .int .i64 (x : Int), .int .i64 el] 32))
                have hy7 := ((hy).trans E12.out).alloc (.cells #[.int .u16 5, .int .u32 kk, .int .i64 (x : Int), .int .i64 el] 32)
                have hrow : InM ((w12).alloc (.cells #[.int .u16 5, .int .u32 kk, .int .i64 (x : Int), .int .i64 el] 32)) (some ⟨w12.heap.size, 0, none⟩) (sc [⟨5, kk, x, el⟩]) := InM.ofBlk (Blk.new_ (by first | rfl | simp)) rfl
                have hb1 : (placeN ps j) + 1 ≤ 1000000 := by omega
                have hb0 : 24 ≤ 10000 := by decide
                go_wp2_with (refine wpList_app rfl (.tmp 61) (.tmp 63) 22 rfl w2.heap.size 32 i0 _ 4 24 Try.underlying22 HI.out HZ0.out HZ1.out HZ2.out rfl (by decide) A1 ((placeN ps j)) c1 (sc (deadUp ps j)) rfl ho7 _ 1 1 (sc [⟨5, kk, x, el⟩]) rfl rfl hrow (sc_one _) hb1 hb0 hy7.size ?_; intro A8 c8 w8 ho8 hg8 hzz; have hx8 := hy7.app ho7 (Nat.le_refl _) hg8; rw [← sc_append] at ho8; clear hg8 hzz)
                clear ho7 hy7 hrow hl1 hb0 hb1
                go_roundw
                case rel => exact ⟨j + 1, A8, c8, by omega, by go_num, ⟨by rw [HP1.out], by rw [HP1.out, HD1.out]; exact ho8⟩, hx8⟩
                case measure => simp [intOf]; omega
            · have hno : co = 32 ∨ co = 84 ∨ co = 6 := by
                rcases hK with ⟨q, _, _, _⟩ | ⟨q, _, _⟩ | ⟨q, _, _⟩ | ⟨q, _, _, q1⟩ | ⟨q, q1, q2⟩
                · exact .inl q
                · exact .inr (.inl q)
                · exact .inr (.inr q)
                · exact absurd q h5
                · exact absurd (asks_code.2 q) hA
              have HMV := Lib.hid (mv_none (s := ⟨co, kk, th, el⟩) (placeT ps) hno)
              have HJ1 := Lib.hid (HJ.out ⟨co, kk, th, el⟩)
              have HA1 := Lib.hid (HAs.out ⟨co, kk, th, el⟩)
              have hj : jumpS ⟨co, kk, th, el⟩ = false := by unfold jumpS; rw [hA']; simpa using h5
              rw [hj] at HJ1
              dsimp only [Sy.val, Sy.cells] at HJ1 HA1
              rw [hA'] at HA1
              clear hK hA hA' hj HJ HAs PP h5 hno
              go_wp2_with fail
              refine (HJ1.out _).mono ?_
              rintro e w9 ⟨rfl, hx9⟩
              have bs9 := bs.ext hx9
              clear s0 s1 s2 s3 q0 q1 q2 q3
              have s0 := (bs9).cell 0
              have s1 := (bs9).cell 1
              have s2 := (bs9).cell 2
              have s3 := (bs9).cell 3
              go_wp2_with fail
              refine (HA1.out _).mono ?_
              rintro e w12 ⟨rfl, hx12⟩
              have bs12 := bs9.ext hx12
              have E12 := Lib.hid ((hE0.trans hx9).trans hx12)
              clear s0 s1 s2 s3
              have s0 := (bs12).cell 0
              have s1 := (bs12).cell 1
              have s2 := (bs12).cell 2
              have s3 := (bs12).cell 3
              rcases hv : aliveAt ps j with _ | _
              · have HD1 := Lib.hid (HDNX.out hv)
                have HP1 := Lib.hid (HPSX.out.trans (by rw [hv, if_neg (by decide), Nat.add_zero]))
                have ca := PA.out _ (hy.trans E12.out)
                rw [hv] at ca
                have HO2 := Lib.hid (own_ext ho E12.out)
                clear ho
                go_wp2_with fail
                go_roundw
                case rel => exact ⟨j + 1, A1, c1, by omega, by go_num, ⟨by rw [HP1.out], by rw [HP1.out, HD1.out]; exact HO2.out⟩, hy.trans E12.out⟩
                case measure => simp [intOf]; omega
              · have HD1 := Lib.hid ((HDYX.out hv).trans (by rw [HMV.out]))
                have HP1 := Lib.hid (HPSX.out.trans (by rw [hv, if_pos rfl]))
                have ca := PA.out _ (hy.trans E12.out)
                rw [hv] at ca
                clear hv
                have hl1 : (sc (deadUp ps j)).length = (placeN ps j) * 4 := by rw [sc_length]; have := HDL.out; omega
                have ho7 := own_ext ho ((E12.out).alloc (.cells #[.int .u16 co, .int .u32 kk, .int .i64 th, .int .i64 el] 32))
                have hy7 := ((hy).trans E12.out).alloc (.cells #[.int .u16 co, .int .u32 kk, .int .i64 th, .int .i64 el] 32)
                have hrow : InM ((w12).alloc (.cells #[.int .u16 co, .int .u32 kk, .int .i64 th, .int .i64 el] 32)) (some ⟨w12.heap.size, 0, none⟩) (sc [⟨co, kk, th, el⟩]) := InM.ofBlk (Blk.new_ (by first | rfl | simp)) rfl
                have hb1 : (placeN ps j) + 1 ≤ 1000000 := by omega
                have hb0 : 24 ≤ 10000 := by decide
                go_wp2_with (refine wpList_app rfl (.tmp 61) (.tmp 63) 22 rfl w2.heap.size 32 i0 _ 4 24 Try.underlying22 HI.out HZ0.out HZ1.out HZ2.out rfl (by decide) A1 ((placeN ps j)) c1 (sc (deadUp ps j)) rfl ho7 _ 1 1 (sc [⟨co, kk, th, el⟩]) rfl rfl hrow (sc_one _) hb1 hb0 hy7.size ?_; intro A8 c8 w8 ho8 hg8 hzz; have hx8 := hy7.app ho7 (Nat.le_refl _) hg8; rw [← sc_append] at ho8; clear hg8 hzz)
                clear ho7 hy7 hrow hl1 hb0 hb1
                go_roundw
                case rel => exact ⟨j + 1, A8, c8, by omega, by go_num, ⟨by rw [HP1.out], by rw [HP1.out, HD1.out]; exact ho8⟩, hx8⟩
                case measure => simp [intOf]; omega
        · obtain rfl : j = k := by omega
          have HO := Lib.hid ho
          clear ho
          go_wp2_with fail
          go_ret
          exact ⟨A1, c1, rfl, by rw [← HDA.out]; exact own_mono HO.out HGW.out, hx1.trans (HYE.out.trans hy)⟩
end Go.Proofs.Ytjlhfmedaandeaa
