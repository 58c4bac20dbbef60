import Derived.Test.YtlicndonhmcmmaaChunk
namespace Go.Proofs.Ytlicndonhmcmmaa
open Go.RowKit Go.ChangeShapes Go.WideShapes
set_option linter.unusedVariables false
attribute [local go_sem] Oper.semAt_some

set_option maxHeartbeats 2000000 in
set_option maxRecDepth 100000 in
theorem chunk1_nil (l s t c : Nat) (A : Option Addr) (J : List Nat → World → Prop)
    (W : World) (h1 : W.cell? ⟨s, 0, none⟩ = some (.slice A 0 c)) (h2 : W.cell? ⟨t, 0, none⟩ = some (.int .i64 8)) (h0 : J [] W) :
    CallsIn .wide 2 Try.prog 86 #[.func (.yield l) #[] #[], .pointer (some ⟨s, 0, none⟩), .pointer (some ⟨t, 0, none⟩)] W fun e W' => (∃ v, e = .returned v) ∧ J [] W' := by
  refine callsIn_of_wp Try.func86 rfl trivial ?_ rfl
  simp only [Try.ntmps86, List.size_toArray, List.length_cons, List.length_nil, Nat.reduceAdd, Nat.reduceSub, Array.replicate_succ, Array.replicate_zero, List.push_toArray, List.append_toArray, List.nil_append, List.cons_append]
  gi_wp2
  gi_loopw [4] (fun i wr => i = .int .i64 0 ∧ J [] wr ∧ wr.cell? ⟨s, 0, none⟩ = some (.slice A 0 c)) (fun _ _ => 0)
  case atStart => exact ⟨rfl, h0, h1⟩
  case round =>
    clear h1 h2 h0
    obtain ⟨rfl, hJs, h1⟩ := hrel
    gi_wp2
    go_end0
    exact ⟨⟨_, rfl⟩, hJs⟩

set_option maxRecDepth 100000 in
theorem chunk_in (A : Option Addr) (n c : Nat) (w : World) :
    CallsIn .wide 2 Try.prog 77 #[.slice A n c, .int .i64 8] w fun e w' => e = .returned (.func (.func 86) #[] #[.pointer (some ⟨w.heap.size, 0, none⟩), .pointer (some ⟨w.heap.size + 1, 0, none⟩)]) ∧ w' = (w.alloc (.cells #[.slice A n c] 23)).alloc (.cells #[.int .i64 8] 3) := by
  refine callsIn_of_wp Try.func77 rfl trivial ?_ rfl
  simp only [Try.ntmps77, List.size_toArray, List.length_cons, List.length_nil, Nat.reduceAdd, Nat.reduceSub, Array.replicate_succ, Array.replicate_zero, List.push_toArray, List.append_toArray, List.nil_append, List.cons_append]
  gi_wp2
  go_ret
  exact ⟨rfl, rfl⟩

/-- The address of byte k. -/
def adv (A : Option Addr) (k : Nat) : Option Addr := A.map fun a => ⟨a.block, a.off + k, none⟩
/-- slices.Chunk of 8 hands back a value that yields the pieces of 8 bytes, one behind the other. -/
theorem chunk_stops (s t : Nat) (A : Option Addr) (m n c : Nat) (hn : n = 8 * m) (hb : n ≤ c ∧ c ≤ 9223372036854775807 ∧ n ≤ 1000000) (hA : 0 < n → ∃ b off, A = some ⟨b, off, none⟩) (w : World) (hs : s < w.heap.size) (ht : t < w.heap.size)
    (h1 : w.cell? ⟨s, 0, none⟩ = some (.slice A n c)) (h2 : w.cell? ⟨t, 0, none⟩ = some (.int .i64 8)) :
    SeqStopsK .wide 2 Try.prog 86 #[.pointer (some ⟨s, 0, none⟩), .pointer (some ⟨t, 0, none⟩)] (fun x : { x : Nat // x < m } => #[Value.slice (adv A (8 * x.1)) 8 8]) (KpB s t) (fun ys => ys.map (·.1) = List.range m) (fun _ => True) m w := fun l J Jx W hW hJ _ hY h0 => by
  have h1' := (hW.cell (p := ⟨s, 0, none⟩) hs).trans h1
  have h2' := (hW.cell (p := ⟨t, 0, none⟩) ht).trans h2
  rcases Nat.eq_zero_or_pos m with hm | hm
  · subst hm
    obtain rfl : n = 0 := by omega
    exact (chunk1_nil l s t c A (fun _ W => J [] W) W h1' h2' h0).mono fun e W' ⟨he, hj⟩ => ⟨he, .inl ⟨[], rfl, hj⟩⟩
  · obtain ⟨b, off, rfl⟩ := hA (by omega)
    refine (chunk1_in l s t b off m n c hn hb (fun ns W => ∃ pre : List { x : Nat // x < m }, pre.map (·.1) = ns ∧ J pre W) (fun ns W => ∃ pre : List { x : Nat // x < m }, Jx pre W) W.heap.size ?_ ?_ W h1' h2' ⟨[], rfl, h0⟩).mono ?_
    · rintro ns X Y row ⟨pre, hp, hj⟩ hg hr
      exact ⟨pre, hp, hJ pre X Y row hj hg hr⟩
    · rintro ns x X ⟨pre, hp, hj⟩ hlen hx
      refine YieldAt.mono (hY pre ⟨x, hx⟩ X hj (by rw [← hp, List.length_map] at hlen; exact hlen)) ?_
      rintro e W' (⟨rfl, hj', hk⟩ | ⟨rfl, hj'⟩)
      · exact .inl ⟨rfl, ⟨_, by rw [List.map_append, hp]; rfl, hj'⟩, hk⟩
      · exact .inr ⟨rfl, ⟨_, hj'⟩⟩
    · rintro e W' ⟨he, h⟩
      rcases h with ⟨ys, rfl, pre, hp, hj⟩ | ⟨ns, _, pre, hj⟩
      · exact ⟨he, .inl ⟨pre, hp, hj⟩⟩
      · exact ⟨he, .inr ⟨pre, trivial, hj⟩⟩
end Go.Proofs.Ytlicndonhmcmmaa
