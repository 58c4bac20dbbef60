import Derived.Test.YtjlhfmedaandeaaBase
import Derived.ArgAppend
import Derived.OwnWalkIn
/- append to a row of the call's own: the old row stays owned, too. No program is named here. -/
namespace Go.Proofs.Ytjlhfmedaandeaa
open Go.RowKit
set_option linter.unusedVariables false

theorem run_append_own2 {P : Program} (w : World) (base : Nat) (t ty e : TypeId) (i : TypeInfo) (z : Value) (size bytes : Nat) (ht : P.underlying t = some (.slice e)) (hi : P.info? e = some i) (hz : i.zero = some z)
    (hsize : i.size = size) (hby : i.bytes = bytes) (hzs : z.cells.size = size) (hsz : 0 < size)
    (v : Value) (n : Nat) (xs : List Value) (hown : w.ownsRow base e size v n xs)
    (a : Addr) (m c : Nat) (news : List Value) (hl : news.length = m * size) (hnews : ∀ j u, news[j]? = some u → w.cell? (a.add j) = some u) (h1 : ∀ u ∈ news, u.oneCell' = true)
    (h63 : n + m ≤ maxLen) (hbytes : (n + m) * bytes ≤ 140737488355328) (hbase : base ≤ w.heap.size) :
    ∃ v' w', (Builtin.append_ #[t, t] ty #[v, .slice (some a) m c]).run P w = .ok v' w' ∧ w'.ownsRow base e size v' (n + m) (xs ++ news) ∧ w.grownBy w' v.ownBlock ∧ w'.ownsRow base e size v n xs ∧
      (∀ v'', w.ownsRow base e size v'' (n + m) (xs ++ news) → w'.ownsRow base e size v'' (n + m) (xs ++ news)) ∧ (v'.ownBlock = v.ownBlock ∨ ∀ b, v'.ownBlock = some b → w.heap.size ≤ b) := by
  obtain ⟨v', w', r0, r1, r2, _⟩ := run_append_own (P := P) w base t ty e i z size bytes ht hi hz hsize hby hzs hsz v n xs hown a m c news hl hnews h1 h63 hbytes hbase
  refine ⟨v', w', r0, r1, r2, ?_⟩
  rcases hown.2 with ⟨rfl, rfl⟩ | ⟨g, cap, cur, rfl, hb, hh, hn, hm, hs, htk⟩
  · obtain rfl : xs = [] := List.eq_nil_of_length_eq_zero (by rw [hown.1, Nat.zero_mul])
    obtain ⟨v2, w2, q0, q1, q2, _⟩ := run_append_own (P := P) w w.heap.size t ty e i z size bytes ht hi hz hsize hby hzs hsz (.slice none 0 0) 0 [] (World.ownsRow_nil w _ e size) a m c news hl hnews h1 h63 hbytes (Nat.le_refl _)
    rw [r0] at q0
    injection q0 with e1 e2
    subst e1 e2
    refine ⟨⟨hown.1, .inl ⟨rfl, rfl⟩⟩, fun v'' h => h.kept r2 ?_, .inr fun b hb => (q1.lt b hb).1⟩
    show v''.ownBlock = none ∨ v''.ownBlock ≠ none
    cases v''.ownBlock
    · exact .inl rfl
    · exact .inr (fun h => by cases h)
  · have hcell : ∀ j, j < cur.size → w.cell? ⟨g, j, none⟩ = cur[j]? := fun j hj => cell_of_row w g j cur e (0, 0) hh
    by_cases hroom : n + m ≤ cap
    · have hfit : n * size + news.length ≤ cur.size := by
        rw [hs, hl, ← Nat.add_mul]
        exact Nat.mul_le_mul_right _ hroom
      have hrun := run_append_room_cells (P := P) w t ty e i ht hi g 0 n cap a m c news (by rw [hsize]; exact hl) hnews h1 hroom
        (fun j hj => by rw [Nat.zero_add, hsize, hcell _ (by omega), Array.getElem?_eq_getElem (by omega)]; rfl)
        (fun j hj => by simp [World.frozen?, hh])
      rw [r0] at hrun
      injection hrun with e1 e2
      subst e1
      rcases r1.2 with ⟨hv, _⟩ | ⟨g', cap', cur', hv, hb', hh', hn', hm', hs', htk'⟩
      · cases hv
      · injection hv with k1 _ k2
        injection k1 with k1
        injection k1 with k1
        subst k1 k2
        have hx : xs.length = n * size := hown.1
        refine ⟨⟨hx, .inr ⟨g, cap, cur', rfl, hb', hh', by omega, hm', hs', ?_⟩⟩, fun v'' h => ?_, .inl rfl⟩
        · have h9 : (cur'.toList.take ((n + m) * size)).take (n * size) = cur'.toList.take (n * size) := by
            rw [List.take_take, Nat.min_eq_left (Nat.mul_le_mul_right _ (by omega))]
          rw [← h9, htk', ← hx, List.take_left']
          rfl
        · rcases h.2 with ⟨hv, h0⟩ | ⟨g2, cap2, cur2, hv, hb2, hh2, hn2, hm2, hs2, htk2⟩
          · exact h.kept r2 (.inl (by rw [hv]; rfl))
          · by_cases hg : g2 = g
            · subst hg
              rw [hh] at hh2
              injection hh2 with hh2
              injection hh2 with hcc
              subst hcc
              have hcap : cap2 = cap := Nat.eq_of_mul_eq_mul_right hsz (hs2.symm.trans hs)
              subst hcap
              rw [hv]
              exact r1
            · exact h.kept r2 (.inr (by rw [hv]; intro e; injection e with e; exact hg e))
    · obtain ⟨v2, w2, q0, q1, q2⟩ := run_append_arg_grows (P := P) w t ty e i z size bytes ht hi hz hsize hby hzs hsz ⟨g, 0, none⟩ n cap xs hown.1 (fun j u hu => hown.cells (g := g) rfl j u hu) a m c news hl hnews (by omega) h63 hbytes
      rw [r0] at q0
      injection q0 with e1 e2
      subst e1 e2
      have keep : ∀ v'' k ys, w.ownsRow base e size v'' k ys → w'.ownsRow base e size v'' k ys := fun v'' k ys h => h.kept q2 (by
        cases v''.ownBlock
        · exact .inl rfl
        · exact .inr (fun h => by cases h))
      exact ⟨keep _ _ _ hown, fun v'' h => keep _ _ _ h, .inr fun b hb => (q1.lt b hb).1⟩
theorem wpListIn_append_own2 {F : Fence} {n : Nat} {P : Program} (w : World) {ops : Array Oper} {rest : List Oper} {o : Oper} {a : Act} {Q : Exit → Act → World → Prop}
    (hg : o.guard = none) (s x : Operand) (t : TypeId) (hop : o.op = Op.call { callee := Callee.builtin Builtin.append, args := #[s, x], argTypes := #[t, t] })
    (base : Nat) (e : TypeId) (i : TypeInfo) (z : Value) (size bytes : Nat) (h1 : P.underlying t = some (.slice e)) (h2 : P.info? e = some i) (h3 : i.zero = some z) (h4 : i.size = size) (h5 : i.bytes = bytes) (h6 : z.cells.size = size) (h7 : 0 < size)
    (v : Value) (k : Nat) (xs : List Value) (hs : a.eval s = v) (hown : w.ownsRow base e size v k xs) (ad : Addr) (m c : Nat) (news : List Value) (hx : a.eval x = .slice (some ad) m c) (hn : news.length = m * size)
    (hc : ∀ j u, news[j]? = some u → w.cell? (ad.add j) = some u) (h1c : ∀ u ∈ news, u.oneCell' = true) (b1 : k + m ≤ maxLen) (b2 : (k + m) * bytes ≤ 140737488355328) (b3 : base ≤ w.heap.size)
    (hK : ∀ v' w', w'.ownsRow base e size v' (k + m) (xs ++ news) → w.grownBy w' v.ownBlock → w'.ownsRow base e size v k xs → (∀ v'', w.ownsRow base e size v'' (k + m) (xs ++ news) → w'.ownsRow base e size v'' (k + m) (xs ++ news)) → (v'.ownBlock = v.ownBlock ∨ ∀ b, v'.ownBlock = some b → w.heap.size ≤ b) → wpListIn F n P ops Q rest (a.put o.dst v') w') :
    wpListIn F n P ops Q (o :: rest) a w := by
  refine wpListIn_plain hg fun K hK' => ?_
  obtain ⟨v', w', hrun, r1, r2, r3, r4, r5⟩ := run_append_own2 (P := P) w base t o.type e i z size bytes h1 h2 h3 h4 h5 h6 h7 v k xs hown ad m c news hn hc h1c b1 b2 b3
  unfold Oper.wpIn
  refine ⟨?_, ?_⟩
  · simp [Oper.about, hop, resolve, Target.leads, Sem.run_pure]
  · rw [Oper.semAt_plain F _ _ (by rw [hop]; intro c hc'; cases hc')]
    simp [execOp, hop, resolve, invoke, builtin, hs, hx, hrun, Result.andThen]
    exact hK' _ _ (hK v' w' r1 r2 r3 r4 r5)
end Go.Proofs.Ytjlhfmedaandeaa
