import Derived.Test.YtlicndonhmcmmaaPrg6
import Derived.Test.YtlicndonhmcmmaaPrg3
namespace Go.Proofs.Ytlicndonhmcmmaa
open Go.RowKit Go.ChangeShapes Go.WideShapes
set_option linter.unusedVariables false
set_option linter.unusedSimpArgs false

def pm (n : Nat) : Nat := if n % 8 = 0 then n / 8 else 0
def pe (n : Nat) : Int := if n % 8 = 0 then 0 else 20
theorem parseI (A : Option Addr) (n c : Nat) (bs : List Int) (w : World) (hm : n ≤ 32768) (hb : n ≤ c ∧ c ≤ 9223372036854775807) (hl : bs.length = n) (hB : Byt bs) (hM : InM w A (nums .u8 bs)) :
    Calls Try.prog 46 #[.slice A n c] w fun e w' => ∃ P c', e = .returned (.tuple #[.slice P (pm n) c', .int .i64 (pe n)]) ∧ w'.ownsRow w.heap.size 73 4 (.slice P (pm n) c') (pm n) (pc (dp bs (pm n))) ∧ Ext w w' := by
  by_cases h : n % 8 = 0
  · unfold pm pe
    rw [if_pos h, if_pos h]
    refine (parse_yes8 A (n / 8) n c bs w (by omega) (by omega) (by omega) hl hB hM).mono fun e w' ⟨P, c', he, ho, hx⟩ => ⟨P, c', he, ?_, hx⟩
    rw [insC_dp] at ho
    exact own_lower ho (by omega)
  · unfold pm pe
    rw [if_neg h, if_neg h]
    exact (parse_odd A n c w h).mono fun e w' ⟨he, hx⟩ => ⟨none, 0, he, World.ownsRow_nil _ _ _ _, hx⟩
theorem refParseAny (A : Option Addr) (n c : Nat) (bs : List Int) (w : World) (hm : n ≤ 32768) (hb : n ≤ c ∧ c ≤ maxLen) (hl : bs.length = n) (hB : Byt bs) (hM : InM w A (nums .u8 bs)) :
    Calls Try.prog 47 #[.slice A n c] w fun e w' => ∃ P c', e = .returned (.tuple #[.slice P (pm n) c', .int .i64 (pe n)]) ∧ w'.ownsRow w.heap.size 73 4 (.slice P (pm n) c') (pm n) (pc (dp bs (pm n))) ∧ Ext w w' := by
  by_cases h : n % 8 = 0
  · unfold pm pe
    rw [if_pos h, if_pos h]
    exact refParseI A (n / 8) n c bs w (by omega) (by omega) hb hl hB hM
  · unfold pm pe
    rw [if_neg h, if_neg h]
    exact (refParse_odd A n c w h).mono fun e w' ⟨he, hx⟩ => ⟨none, 0, he, World.ownsRow_nil _ _ _ _, hx⟩
def dI (bs : List Int) : Ins := if bs.length = 8 then decI bs else zeroI
def dE (n : Nat) : Int := if n = 8 then 0 else 20
set_option maxRecDepth 100000 in
theorem decode_no (A : Option Addr) (n c : Nat) (w : World) (h : ¬ n = 8) :
    Calls Try.prog 48 #[.slice A n c] w fun e w' => e = .returned (.tuple #[zeroI.val, .int .i64 20]) ∧ Ext w w' := by
  have d1 : ((n : Int) != 8) = true := by simp; omega
  clear h
  go_enter Try.func48, Try.ntmps48
  go_wp2
  exact bodyPost_ret (results_blk2 rfl _ _ w.heap.size 73 _ _ rfl (Blk.new_ rfl) Try.underlying73 rfl (by kernel_rfl)) rfl ⟨rfl, ((Ext.refl w).alloc _)⟩
theorem decodeI (A : Option Addr) (n c : Nat) (bs : List Int) (w : World) (hl : bs.length = n) (hB : Byt bs) (hM : InM w A (nums .u8 bs)) :
    Calls Try.prog 48 #[.slice A n c] w fun e w' => e = .returned (.tuple #[(dI bs).val, .int .i64 (dE n)]) ∧ Ext w w' := by
  by_cases h : n = 8
  · subst h
    unfold dI dE
    rw [if_pos hl, if_pos rfl]
    exact decode_yes A c bs w hl hB hM
  · unfold dI dE
    rw [if_neg (by omega), if_neg h]
    exact decode_no A n c w h

/-- One cell of an own row of instructions is written: its K. -/
theorem pc_setK : ∀ (ps : List Ins) (k : Nat) (x : Int) (hk : k < ps.length), (pc ps).set (k * 4 + 3) (.int .u32 x) = pc (ps.set k { ps[k] with k := x })
  | i :: ps, 0, x, _ => by
    obtain ⟨a, b, c, d⟩ := i
    simp [pc, Ins.cells]
  | i :: ps, k + 1, x, hk => by
    have hk' : k < ps.length := by simpa using hk
    have := pc_setK ps k x hk'
    rw [pc_cons, List.set_append_right _ _ (by simp [Ins.cells]; omega)]
    have e : (k + 1) * 4 + 3 - i.cells.toList.length = k * 4 + 3 := by simp [Ins.cells]; omega
    rw [e, this]
    simp [pc_cons]
theorem own_setK {w : World} {base g n cap : Nat} {t : TypeId} {ps : List Ins} (h : w.ownsRow base t 4 (.slice (some ⟨g, 0, none⟩) n cap) n (pc ps)) {k : Nat} (hk : k < ps.length) (x : Int) :
    (w.setCell ⟨g, k * 4 + 3, none⟩ (.int .u32 x)).ownsRow base t 4 (.slice (some ⟨g, 0, none⟩) n cap) n (pc (ps.set k { ps[k] with k := x })) := by
  have := (h.stored (k * 4 + 3) (.int .u32 x)).1
  rwa [pc_setK ps k x hk] at this
theorem refSameI_true (A B : Option Addr) (n c m d : Nat) (ps : List Ins) (w : World) (hp : ps.length = n) (hm : n = m) (hb : n ≤ 1000000) (hM : InM w A (pc ps)) (hN : InM w B (pc ps)) :
    Calls Try.prog 49 #[.slice A n c, .slice B m d] w fun e w' => e = .returned (.bool true) ∧ Ext w w' := by
  subst hm
  have := refSameI A B n c n d ps ps w hp hp ⟨hb, hb⟩ hM hN
  rwa [decide_eq_true rfl] at this
end Go.Proofs.Ytlicndonhmcmmaa
