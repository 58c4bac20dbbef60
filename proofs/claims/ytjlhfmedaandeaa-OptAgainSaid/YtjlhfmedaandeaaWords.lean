import Derived.ProofKit
import Derived.OpenShut
import Derived.ShutString
import Derived.ChangeOld
import Derived.Lib.SmallJoins
import Derived.Test.YtjlhfmedaandeaaBase
import Derived.Test.YtjlhfmedaandeaaProg
import Derived.Handy
import Derived.Lib.AppendZeros
import Derived.Laws.CopyOwn
import Derived.Shelf.Bytes.SlSmallAll
namespace Go.Proofs.Ytjlhfmedaandeaa
open Go.RowKit
set_option linter.unusedVariables false

/-- The number of bytes, the least first. -/
def leN : List Int → Int
  | [] => 0
  | b :: r => b + 256 * leN r
/-- The n bytes of a number, the least first. -/
def leB : Nat → Int → List Int
  | 0, _ => []
  | n + 1, x => x % 256 :: leB n (x / 256)
def Byt (bs : List Int) : Prop := ∀ x ∈ bs, 0 ≤ x ∧ x < 256
/-- The number of n bytes at a place. -/
def getB (bs : List Int) (at_ n : Nat) : Int := leN ((bs.drop at_).take n)
def leC (n : Nat) (x : Int) : Array Value := (nums .u8 (leB n x)).toArray

theorem leB_length (n : Nat) : ∀ x, (leB n x).length = n := by
  induction n with
  | zero => intro x; rfl
  | succ n ih => intro x; simp [leB, ih]
theorem leB_byt (n : Nat) : ∀ x, Byt (leB n x) := by
  induction n with
  | zero => intro x y hy; simp [leB] at hy
  | succ n ih =>
    intro x y hy
    simp only [leB, List.mem_cons] at hy
    rcases hy with rfl | hy
    · omega
    · exact ih _ y hy
theorem byt_at {bs : List Int} (h : Byt bs) {k : Nat} (hk : k < bs.length) : 0 ≤ bs[k] ∧ bs[k] < 256 := h _ (List.getElem_mem hk)
theorem Byt.drop {bs : List Int} (h : Byt bs) (k : Nat) : Byt (bs.drop k) := fun x hx => h x (List.mem_of_mem_drop hx)
theorem Byt.take {bs : List Int} (h : Byt bs) (k : Nat) : Byt (bs.take k) := fun x hx => h x (List.mem_of_mem_take hx)
theorem Byt.append {a b : List Int} (h : Byt a) (k : Byt b) : Byt (a ++ b) := fun x hx => by
  rcases List.mem_append.1 hx with hx | hx
  · exact h x hx
  · exact k x hx
theorem seg_succ {bs : List Int} {a N : Nat} (h : a < bs.length) : (bs.drop a).take (N + 1) = bs[a] :: (bs.drop (a + 1)).take N := by
  rw [List.drop_eq_getElem_cons h]; rfl
theorem leN_bd : ∀ (bs : List Int), Byt bs → 0 ≤ leN bs ∧ leN bs < 256 ^ bs.length
  | [], _ => by simp [leN]
  | b :: r, h => by
    have h1 := h b (by simp)
    have h2 := leN_bd r (fun x hx => h x (by simp [hx]))
    simp only [leN, List.length_cons, Int.pow_succ]
    omega
theorem leN_leB : ∀ (n : Nat) (x : Int), 0 ≤ x → x < 256 ^ n → leN (leB n x) = x
  | 0, x, h0, h1 => by simp at h1; simp [leB, leN]; omega
  | n + 1, x, h0, h1 => by
    rw [Int.pow_succ] at h1
    simp only [leB, leN]
    rw [leN_leB n (x / 256) (by omega) (by omega)]
    omega
theorem leB_leN : ∀ (bs : List Int), Byt bs → leB bs.length (leN bs) = bs
  | [], _ => rfl
  | b :: r, h => by
    have h1 := h b (by simp)
    have ih := leB_leN r (fun x hx => h x (by simp [hx]))
    simp only [List.length_cons, leB, leN]
    rw [show (b + 256 * leN r) % 256 = b from by omega, show (b + 256 * leN r) / 256 = leN r from by omega, ih]
theorem leB_mod : ∀ (n : Nat) (x : Int), leB n (x % 256 ^ n) = leB n x
  | 0, _ => rfl
  | n + 1, x => by
    simp only [leB]
    have hp : (0 : Int) < 256 ^ n := by
      have : (0 : Int) < 256 := by decide
      exact Int.pow_pos this
    have e0 : x / (256 * 256 ^ n) = x / 256 / 256 ^ n := (Int.ediv_ediv_of_nonneg (by decide)).symm
    have e1 : x % 256 ^ (n + 1) % 256 = x % 256 := by
      rw [Int.pow_succ, Int.mul_comm]
      exact Int.emod_emod_of_dvd x (Int.dvd_mul_right 256 _)
    have e2 : x % 256 ^ (n + 1) / 256 = x / 256 % 256 ^ n := by
      rw [Int.pow_succ, Int.mul_comm, Int.emod_def, Int.emod_def, e0, Int.mul_assoc]
      omega
    rw [e1, e2, leB_mod n]

theorem or_comm_ (k : IntKind) (x y : Int) : bits .or k x y = bits .or k y x := by simp only [bits]; rw [BitVec.or_comm]
theorem wraps_u16' (n : Int) (h₀ : 0 ≤ n) (h₁ : n < 2 ^ 16) : IntKind.u16.wrap n = n := IntWalk.u16_in n (by omega)
theorem wraps_u32' (n : Int) (h₀ : 0 ≤ n) (h₁ : n < 2 ^ 32) : IntKind.u32.wrap n = n := IntWalk.u32_in n (by omega)
theorem wraps_u64' (n : Int) (h₀ : 0 ≤ n) (h₁ : n < 2 ^ 64) : IntKind.u64.wrap n = n := IntWalk.u64_in n (by omega)

theorem u16_or_0 (y : Int) (h0 : 0 ≤ y) (h1 : y < 256) : bits .or .u16 0 y = y := by
  have := bits_join .u16 16 (by decide) wraps_u16' 8 0 y (by omega) (by omega) (by omega) h0 (by omega) (by omega)
  omega
theorem u16_or_8 (x y : Int) (hx : 0 ≤ x ∧ x < 256) (hy : 0 ≤ y ∧ y < 256) : bits .or .u16 x (y * 256) = x + y * 256 := by
  rw [or_comm_, bits_join .u16 16 (by decide) wraps_u16' 8 (y * 256) x (by omega) (by omega) (by omega) hx.1 (by omega) (by omega)]
  omega
theorem u32_or_0 (y : Int) (h0 : 0 ≤ y) (h1 : y < 256) : bits .or .u32 0 y = y := by
  have := bits_join .u32 32 (by decide) wraps_u32' 8 0 y (by omega) (by omega) (by omega) h0 (by omega) (by omega)
  omega
theorem u32_or_8 (x y : Int) (hx : 0 ≤ x ∧ x < 256) (hy : 0 ≤ y ∧ y < 256) : bits .or .u32 x (y * 256) = x + y * 256 := by
  rw [or_comm_, bits_join .u32 32 (by decide) wraps_u32' 8 (y * 256) x (by omega) (by omega) (by omega) hx.1 (by omega) (by omega)]
  omega
theorem u32_or_16 (x y : Int) (hx : 0 ≤ x ∧ x < 65536) (hy : 0 ≤ y ∧ y < 256) : bits .or .u32 x (y * 65536) = x + y * 65536 := by
  rw [or_comm_, bits_join .u32 32 (by decide) wraps_u32' 16 (y * 65536) x (by omega) (by omega) (by omega) hx.1 (by omega) (by omega)]
  omega
theorem u32_or_24 (x y : Int) (hx : 0 ≤ x ∧ x < 16777216) (hy : 0 ≤ y ∧ y < 256) : bits .or .u32 x (y * 16777216) = x + y * 16777216 := by
  rw [or_comm_, bits_join .u32 32 (by decide) wraps_u32' 24 (y * 16777216) x (by omega) (by omega) (by omega) hx.1 (by omega) (by omega)]
  omega
theorem u64_or_0 (y : Int) (h0 : 0 ≤ y) (h1 : y < 256) : bits .or .u64 0 y = y := by
  have := bits_join .u64 64 (by decide) wraps_u64' 8 0 y (by omega) (by omega) (by omega) h0 (by omega) (by omega)
  omega
theorem u64_or_8 (x y : Int) (hx : 0 ≤ x ∧ x < 256) (hy : 0 ≤ y ∧ y < 256) : bits .or .u64 x (y * 256) = x + y * 256 := by
  rw [or_comm_, bits_join .u64 64 (by decide) wraps_u64' 8 (y * 256) x (by omega) (by omega) (by omega) hx.1 (by omega) (by omega)]
  omega
theorem u64_or_16 (x y : Int) (hx : 0 ≤ x ∧ x < 65536) (hy : 0 ≤ y ∧ y < 256) : bits .or .u64 x (y * 65536) = x + y * 65536 := by
  rw [or_comm_, bits_join .u64 64 (by decide) wraps_u64' 16 (y * 65536) x (by omega) (by omega) (by omega) hx.1 (by omega) (by omega)]
  omega
theorem u64_or_24 (x y : Int) (hx : 0 ≤ x ∧ x < 16777216) (hy : 0 ≤ y ∧ y < 256) : bits .or .u64 x (y * 16777216) = x + y * 16777216 := by
  rw [or_comm_, bits_join .u64 64 (by decide) wraps_u64' 24 (y * 16777216) x (by omega) (by omega) (by omega) hx.1 (by omega) (by omega)]
  omega
theorem u64_or_32 (x y : Int) (hx : 0 ≤ x ∧ x < 4294967296) (hy : 0 ≤ y ∧ y < 256) : bits .or .u64 x (y * 4294967296) = x + y * 4294967296 := by
  rw [or_comm_, bits_join .u64 64 (by decide) wraps_u64' 32 (y * 4294967296) x (by omega) (by omega) (by omega) hx.1 (by omega) (by omega)]
  omega
theorem u64_or_40 (x y : Int) (hx : 0 ≤ x ∧ x < 1099511627776) (hy : 0 ≤ y ∧ y < 256) : bits .or .u64 x (y * 1099511627776) = x + y * 1099511627776 := by
  rw [or_comm_, bits_join .u64 64 (by decide) wraps_u64' 40 (y * 1099511627776) x (by omega) (by omega) (by omega) hx.1 (by omega) (by omega)]
  omega
theorem u64_or_48 (x y : Int) (hx : 0 ≤ x ∧ x < 281474976710656) (hy : 0 ≤ y ∧ y < 256) : bits .or .u64 x (y * 281474976710656) = x + y * 281474976710656 := by
  rw [or_comm_, bits_join .u64 64 (by decide) wraps_u64' 48 (y * 281474976710656) x (by omega) (by omega) (by omega) hx.1 (by omega) (by omega)]
  omega
theorem u64_or_56 (x y : Int) (hx : 0 ≤ x ∧ x < 72057594037927936) (hy : 0 ≤ y ∧ y < 256) : bits .or .u64 x (y * 72057594037927936) = x + y * 72057594037927936 := by
  rw [or_comm_, bits_join .u64 64 (by decide) wraps_u64' 56 (y * 72057594037927936) x (by omega) (by omega) (by omega) hx.1 (by omega) (by omega)]
  omega

theorem u64q (x : Int) (h0 : 0 ≤ x) (h1 : x < 18446744073709551616) : IntKind.u64.wrap (x.tdiv 256) = x / 256 := IntWalk.u64_quo x 256 ⟨h0, by omega, by omega⟩
theorem tm256 (x : Int) (h0 : 0 ≤ x) : x.tmod 256 = x % 256 := IntWalk.rem_in x 256 h0
theorem u64w (x : Int) (h0 : 0 ≤ x) (h1 : x < 18446744073709551616) : IntKind.u64.wrap x = x := IntWalk.u64_in x ⟨h0, by omega⟩
def Lt64 (x : Int) : Prop := x < 18446744073709551616

end Go.Proofs.Ytjlhfmedaandeaa

namespace Go.Proofs.Ytjlhfmedaandeaa
open Go.RowKit
set_option linter.unusedVariables false

/-- Halves, Whole. -/
theorem halves (x : Int) (w : World) (h0 : 0 ≤ x) (h1 : x < 256 ^ 8) :
    Calls Try.prog 85 #[.int .u64 x] w fun e w' => e = .returned (.tuple #[.int .u32 (x % 4294967296), .int .u32 (x / 4294967296)]) ∧ w = w' := by
  have h2 := Lib.hid h1
  clear h1
  go_enter Try.func85, Try.ntmps85
  go_wp2
  go_ret2
  have h1 := h2.out
  refine ⟨?_, rfl⟩
  have e : ∀ a b c d : Int, a = b → c = d → Ending.returned (.tuple #[Value.int .u32 a, .int .u32 c]) = .returned (.tuple #[Value.int .u32 b, .int .u32 d]) := fun a b c d h k => by rw [h, k]
  exact e _ _ _ _ (by omega) (by omega)

theorem whole_or (x y : Int) (hx : 0 ≤ x ∧ x < 4294967296) (hy : 0 ≤ y ∧ y < 4294967296) : bits .or .u64 (y * 4294967296) x = x + 4294967296 * y := by
  rw [bits_join .u64 64 (by decide) wraps_u64' 32 (y * 4294967296) x (by omega) (by omega) (by omega) hx.1 (by omega) (by omega)]
  omega
/-- vestibuleref01.Copy: a row of the call's own. -/
theorem info_u8 : (Try.prog.info? 5).map (fun i => (i.zero, i.size, i.bytes)) = some (some (.int .u8 0), 1, 1) := by kernel_rfl
theorem size_u8 : (Try.prog.info? 5).map (·.size) = some 1 := by kernel_rfl
end Go.Proofs.Ytjlhfmedaandeaa

namespace Go.Proofs.Ytjlhfmedaandeaa
open Go.RowKit
set_option linter.unusedVariables false

/-- bytes.Equal, words.Same. -/
theorem strOf_inj : ∀ (xs ys : List Int), Byt xs → Byt ys → ((strOfNums xs).toList = (strOfNums ys).toList ↔ xs = ys) := by
  intro xs ys hx hy
  rw [Lib.strOfNums_toList, Lib.strOfNums_toList]
  constructor
  · intro h
    have h2 := congrArg (List.map fun u : UInt8 => (u.toNat : Int)) h
    have key : ∀ zs : List Int, Byt zs → (Lib.bytesOf zs).map (fun u : UInt8 => (u.toNat : Int)) = zs := fun zs hz => by
      unfold Lib.bytesOf
      rw [List.map_map]
      conv => rhs; rw [← List.map_id zs]
      refine List.map_congr_left fun z hz' => ?_
      have := hz z hz'
      simp only [Function.comp, id, UInt8.toNat_ofNat']
      omega
    rwa [key xs hx, key ys hy] at h2
  · rintro rfl
    rfl
theorem info_Grow : (Try.prog.info? 5).map (fun i => (i.zero, i.size, i.bytes)) = some (some (.int .u8 0), 1, 1) := info_u8
/-- A slice of bytes as a value, with what it holds. -/
structure Sl where
  A : Option Addr
  n : Nat
  c : Nat
  xs : List Int
def Sl.val (s : Sl) : Value := .slice s.A s.n s.c
def Sl.ok (w : World) (s : Sl) : Prop := s.xs.length = s.n ∧ InM w s.A (nums .u8 s.xs)
def tot : List Sl → Nat
  | [] => 0
  | s :: r => s.n + tot r
def flat : List Sl → List Int
  | [] => []
  | s :: r => s.xs ++ flat r
theorem tot_append (a b : List Sl) : tot (a ++ b) = tot a + tot b := by
  induction a with
  | nil => simp [tot]
  | cons s r ih => simp [tot, ih, Nat.add_assoc]
theorem flat_append (a b : List Sl) : flat (a ++ b) = flat a ++ flat b := by
  induction a with
  | nil => simp [flat]
  | cons s r ih => simp [flat, ih]
theorem flat_length (w : World) : ∀ (l : List Sl), (∀ s ∈ l, s.ok w) → (flat l).length = tot l
  | [], _ => rfl
  | s :: r, h => by
    simp only [flat, tot, List.length_append]
    rw [flat_length w r (fun x hx => h x (by simp [hx])), (h s (by simp)).1]
theorem tot_take_succ (l : List Sl) (k : Nat) (hk : k < l.length) : tot (l.take (k + 1)) = tot (l.take k) + l[k].n := by
  rw [List.take_succ_eq_append_getElem hk, tot_append]
  simp [tot]
theorem flat_take_succ (l : List Sl) (k : Nat) (hk : k < l.length) : flat (l.take (k + 1)) = flat (l.take k) ++ l[k].xs := by
  rw [List.take_succ_eq_append_getElem hk, flat_append]
  simp [flat]
theorem tot_take_le (l : List Sl) (k : Nat) : tot (l.take k) ≤ tot l := by
  conv => rhs; rw [← List.take_append_drop k l, tot_append]
  omega

end Go.Proofs.Ytjlhfmedaandeaa

/- The arguments of the laws, opened: what the reading of an argument as data says of the cells. -/
namespace Go.Proofs.Ytjlhfmedaandeaa
open Go.ChangeShapes Go.WideShapes Go.ChangeAt Go.RowKit
open Go.ChangeMaps (open_string shut_string)
set_option linter.unusedVariables false

theorem own_knob : ownKnob Try.prog.godebug = none := by kernel_rfl
theorem laid_out : laidOutB Try.prog = true := by kernel_rfl

section
variable {H : Type} {enc : TypeId × Value → H} {W : World}

theorem wf_u8 {x : Int} (h : (Lit.int .u8 x).wf = true) : 0 ≤ x ∧ x < 256 := by
  have := bounds_u8 h
  omega
theorem wf_u16 {x : Int} (h : (Lit.int .u16 x).wf = true) : 0 ≤ x ∧ x < 65536 := by
  have := bounds_u16 h
  omega
theorem wf_u32 {x : Int} (h : (Lit.int .u32 x).wf = true) : 0 ≤ x ∧ x < 4294967296 := by
  have := bounds_u32 h
  omega
theorem wf_u64 {x : Int} (h : (Lit.int .u64 x).wf = true) : 0 ≤ x ∧ x < 256 ^ 8 := by
  have := bounds_u64 h
  omega

end
end Go.Proofs.Ytjlhfmedaandeaa

namespace Go.Proofs.Ytjlhfmedaandeaa
open Go.RowKit Go.ChangeShapes Go.WideShapes
set_option linter.unusedVariables false

/-- What Get tells of any place. -/
def gb (n : Nat) (a : Int) (k : Nat) : Bool := decide (0 ≤ a ∧ a ≤ (n : Int) - k)
def gv (bs : List Int) (a : Int) (k : Nat) : Int := if gb bs.length a k = true then getB bs a.toNat k else 0
theorem pow256_le {a b : Nat} (h : a ≤ b) : (256 : Int) ^ a ≤ 256 ^ b := by
  obtain ⟨d, rfl⟩ := Nat.exists_eq_add_of_le h
  clear h
  induction d with
  | zero => exact Int.le_refl _
  | succ d ih =>
    rw [← Nat.add_assoc, Int.pow_succ]
    have : (0 : Int) < 256 ^ (a + d) := Int.pow_pos (by decide)
    omega
theorem getB_bd {bs : List Int} (h : Byt bs) (a k : Nat) : 0 ≤ getB bs a k ∧ getB bs a k < 256 ^ k := by
  have h1 := leN_bd ((bs.drop a).take k) ((h.drop a).take k)
  have h2 : ((bs.drop a).take k).length ≤ k := List.length_take_le _ _
  have h3 : (256 : Int) ^ ((bs.drop a).take k).length ≤ 256 ^ k := pow256_le h2
  unfold getB
  omega
theorem gv_bd {bs : List Int} (h : Byt bs) (a : Int) (k : Nat) : 0 ≤ gv bs a k ∧ gv bs a k < 256 ^ k := by
  unfold gv
  split
  · exact getB_bd h _ _
  · exact ⟨Int.le_refl _, Int.pow_pos (by decide)⟩
theorem gb_yes {n : Nat} {a : Int} {k : Nat} (h : 0 ≤ a ∧ a ≤ (n : Int) - k) : gb n a k = true := by unfold gb; simpa using h
theorem gb_no {n : Nat} {a : Int} {k : Nat} (h : ¬ (0 ≤ a ∧ a ≤ (n : Int) - k)) : gb n a k = false := by unfold gb; simpa using h

theorem leC_inM {w : World} {g n : Nat} {t : TypeId} {x : Int} (h : Blk w g t (leC n x)) : InM w (some ⟨g, 0, none⟩) (nums .u8 (leB n x)) := InM.ofBlk h (by simp [leC])

/-- One round of 'b[i]++' on a row of bytes of the call's own. -/
theorem blk_bump {w : World} {g k : Nat} {zs : List Int} {t : TypeId} (h : Blk w g t (nums .u8 zs).toArray) (z : Int) : Blk (w.setCell ⟨g, k, none⟩ (.int .u8 z)) g t (nums .u8 (zs.set k z)).toArray := by
  have := h.set_ k (.int .u8 z)
  simpa [nums, List.map_set] using this

end Go.Proofs.Ytjlhfmedaandeaa

namespace Go.Proofs.Ytjlhfmedaandeaa
open Go.RowKit Go.ChangeShapes Go.WideShapes
set_option linter.unusedVariables false

theorem inM_new {w : World} {t : TypeId} {cs : Array Value} {xs : List Value} (e : cs.toList = xs) : InM (w.alloc (.cells cs t)) (some ⟨w.heap.size, 0, none⟩) xs := InM.ofBlk (Blk.new w t cs) e
theorem byt_lit {bs : List Int} (h : bs.all (fun x => decide (0 ≤ x ∧ x < 256)) = true) : Byt bs := fun x hx => by
  have := List.all_eq_true.1 h x hx
  simpa using this

/-- A contract that leaves the world alone, its world under a name of its own. -/
theorem keep {P : Program} {f : FuncId} {args : Array Value} {w : World} {x : Ending} (h : Calls P f args w fun e w' => e = x ∧ w = w') : Calls P f args w fun e w' => e = x ∧ Ext w w' :=
  h.mono fun e w' ⟨he, hw⟩ => ⟨he, hw ▸ Ext.refl w⟩
theorem keepN {P : Program} {f : FuncId} {args : Array Value} {w : World} {x : Ending} (h : Calls P f args w fun e w' => e = x ∧ ∃ q, w' = w.drewN q) : Calls P f args w fun e w' => e = x ∧ Ext w w' :=
  h.mono fun e w' ⟨he, q, hw⟩ => ⟨he, by rw [hw]; exact (Ext.refl w).drewN q⟩
theorem leC_at {n : Nat} {x : Int} {xs : List Int} (h : leB n x = xs) {w : World} {g : Nat} {t : TypeId} (hb : Blk w g t (leC n x)) : InM w (some ⟨g, 0, none⟩) (nums .u8 xs) := h ▸ leC_inM hb
theorem Ext.one {w w' : World} {o : Obj} (h : Ext (w.alloc o) w') : Ext w w' := ((Ext.refl w).alloc o).trans h

theorem leB_add : ∀ (a b : Nat) (x : Int), leB (a + b) x = leB a x ++ leB b (x / 256 ^ a)
  | 0, b, x => by simp [leB]
  | a + 1, b, x => by
    rw [show a + 1 + b = (a + b) + 1 from by omega]
    simp only [leB, List.cons_append]
    rw [leB_add a b, Int.pow_succ, Int.mul_comm, ← Int.ediv_ediv_of_nonneg (by decide)]
theorem leB_halves (l h : Int) (hl : 0 ≤ l ∧ l < 4294967296) : leB 8 (l + 4294967296 * h) = leB 4 l ++ leB 4 h := by
  rw [show (8 : Nat) = 4 + 4 from rfl, leB_add, show (256 : Int) ^ 4 = 4294967296 from by decide, show (l + 4294967296 * h) / 4294967296 = h from by omega]
  rw [← leB_mod 4 (l + 4294967296 * h), show (256 : Int) ^ 4 = 4294967296 from by decide, show (l + 4294967296 * h) % 4294967296 = l from by omega]
theorem leB_quarters (l : Int) (hl : 0 ≤ l ∧ l < 4294967296) : leB 4 l = leB 2 (l % 65536) ++ leB 2 (l / 65536) := by
  rw [show (4 : Nat) = 2 + 2 from rfl, leB_add, ← leB_mod 2 l, show (256 : Int) ^ 2 = 65536 from by decide]
theorem getB_leB {n : Nat} {y : Int} (h0 : 0 ≤ y) (h1 : y < 256 ^ n) : getB (leB n y) 0 n = y := by
  unfold getB
  rw [List.drop_zero, List.take_of_length_le (by rw [leB_length]; exact Nat.le_refl _), leN_leB n y h0 h1]

end Go.Proofs.Ytjlhfmedaandeaa
