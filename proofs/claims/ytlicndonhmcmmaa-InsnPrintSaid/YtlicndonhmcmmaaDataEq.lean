import Derived.Test.YtlicndonhmcmmaaData3
namespace Go.Proofs.Ytlicndonhmcmmaa
open Go.RowKit Go.ChangeShapes Go.WideShapes
set_option linter.unusedVariables false
theorem args_refl (n : Nat) (a b c d e f : Int) (W : World) : (Op.equalIn (n + 2) 43 (.agg #[.int .u64 a, .int .u64 b, .int .u64 c, .int .u64 d, .int .u64 e, .int .u64 f]) (.agg #[.int .u64 a, .int .u64 b, .int .u64 c, .int .u64 d, .int .u64 e, .int .u64 f])).run Try.prog W = .ok true W := by
  have h1 : Try.prog.underlying 43 = some (.array 6 22) := by kernel_rfl
  have h2 : ∀ W, (Go.sizeOf 22).run Try.prog W = .ok 1 W := fun _ => by kernel_rfl
  have h3 : ∀ (x y : Int) (W : World), (Op.equalIn (n + 1) 22 (.int .u64 x) (.int .u64 y)).run Try.prog W = .ok (x == y) W := fun x y W => run_equalIn_int W n _ .u64 .u64 x y Try.underlying22
  have h5 : ∀ W, (isAgg 22).run Try.prog W = .ok false W := fun _ => by kernel_rfl
  unfold Op.equalIn
  simp only [Sem.run_bind, run_underlying h1, Result.andThen_ok, h2]
  simp only [Std.Legacy.Range.forIn_eq_forIn_range', Std.Legacy.Range.size, Nat.sub_zero, Nat.reduceAdd, Nat.reduceSub, Nat.div_one, List.range'_succ, List.range'_zero]
  simp [part, *]
theorem dat_refl (n : Nat) (d : Dat) (W : World) : (Op.equalIn (n + 3) 45 d.val d.val).run Try.prog W = .ok true W := by
  have h32 : ∀ (x y : Int) (W : World), (Op.equalIn (n + 2) 27 (.int .u32 x) (.int .u32 y)).run Try.prog W = .ok (x == y) W := fun x y W => run_equalIn_int W (n + 1) _ .u32 .u32 x y Try.underlying27
  have h64 : ∀ (x y : Int) (W : World), (Op.equalIn (n + 2) 22 (.int .u64 x) (.int .u64 y)).run Try.prog W = .ok (x == y) W := fun x y W => run_equalIn_int W (n + 1) _ .u64 .u64 x y Try.underlying22
  have i32 : ∀ W, (isAgg 27).run Try.prog W = .ok false W := fun _ => by kernel_rfl
  have i64 : ∀ W, (isAgg 22).run Try.prog W = .ok false W := fun _ => by kernel_rfl
  have iA : ∀ W, (isAgg 43).run Try.prog W = .ok true W := fun _ => by kernel_rfl
  have sA : ∀ W, (Go.sizeOf 43).run Try.prog W = .ok 6 W := fun _ => by kernel_rfl
  obtain ⟨nr, arch, ip, a, b, c, e, f, g⟩ := d
  have hE := fun W : World => args_refl n a b c e f g W
  have hf : (Try.prog.fieldsOf 45).toList.map (fun f => (f.name, f.type, f.offset)) = [("Nr", 27, 0), ("Arch", 27, 1), ("IP", 22, 2), ("Args", 43, 3)] := by kernel_rfl
  simp only [Dat.val, datV]
  rw [run_equalIn_struct W (n + 2) 45 _ _ (by kernel_rfl) (by kernel_rfl)]
  generalize (Try.prog.fieldsOf 45).toList = L at hf
  obtain ⟨f0, f1, f2, f3, rfl⟩ : ∃ f0 f1 f2 f3, L = [f0, f1, f2, f3] := by
    have hl : L.length = 4 := by simpa using congrArg List.length hf
    clear hf
    match L, hl with
    | [a, b, c, d], _ => exact ⟨a, b, c, d, rfl⟩
  simp only [List.map_cons, List.map_nil, List.cons.injEq, Prod.mk.injEq, and_true] at hf
  obtain ⟨⟨n0, t0, o0⟩, ⟨n1, t1, o1⟩, ⟨n2, t2, o2⟩, n3, t3, o3⟩ := hf
  simp [Op.eqFields, part, *]
theorem dat_eql (d : Dat) (W : World) : (binOp .eql 45 d.val d.val).run Try.prog W = .ok (.bool true) W := by
  rw [Dat.val, run_eql_struct]
  have := dat_refl 9997 d W
  rw [Dat.val] at this
  rw [this]
  rfl
theorem dat_neq (d : Dat) (W : World) : (binOp .neq 45 d.val d.val).run Try.prog W = .ok (.bool false) W := by
  rw [Dat.val, run_neq_struct]
  have := dat_refl 9997 d W
  rw [Dat.val] at this
  rw [this]
  rfl
end Go.Proofs.Ytlicndonhmcmmaa
