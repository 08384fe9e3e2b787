/- The checksum in plain words: the same by the program's rounds and by the reference's bits; one turned byte turns it. No condition beyond what each theorem states. -/
import Derived.Laws.BitsAllLaws
namespace Go.Proofs.YtccadcefhfdmgaaGreatDoor
open Go

def crcStep (x : BitVec 32) : BitVec 32 := (x >>> 1) ^^^ (if x.getLsbD 0 then 0xedb88320#32 else 0#32)
def crcSteps : Nat → BitVec 32 → BitVec 32
  | 0, x => x
  | n + 1, x => crcSteps n (crcStep x)
def crcByte (x : BitVec 32) (c : UInt8) : BitVec 32 := crcSteps 8 (x ^^^ BitVec.ofNat 32 c.toNat)
def crcF (x : BitVec 32) (l : List UInt8) : BitVec 32 := l.foldl crcByte x
def crcS (l : List UInt8) : BitVec 32 := crcF 0xffffffff#32 l ^^^ 0xffffffff#32
def crcI (l : List UInt8) : Int := ((crcS l).toNat : Int)

theorem crcSteps_succ (n : Nat) (x : BitVec 32) : crcSteps (n + 1) x = crcStep (crcSteps n x) := by
  induction n generalizing x with
  | zero => rfl
  | succ n ih => show crcSteps (n + 1) (crcStep x) = _; rw [ih]; rfl
theorem crcF_snoc (x : BitVec 32) (l : List UInt8) (c : UInt8) : crcF x (l ++ [c]) = crcByte (crcF x l) c := by
  unfold crcF; rw [List.foldl_append]; rfl
theorem crcI_bd (l : List UInt8) : 0 ≤ crcI l ∧ crcI l < 4294967296 := by
  unfold crcI; have := (crcS l).isLt; omega

/-! the same by the program's words -/
theorem toInt32 (x : BitVec 32) : BitVec.ofInt 32 (x.toNat : Int) = x := by
  apply BitVec.eq_of_toNat_eq
  rw [ofInt_u32 _ x.isLt]
theorem xor_u32 (x y : BitVec 32) : bits .xor .u32 (x.toNat : Int) (y.toNat : Int) = ((x ^^^ y).toNat : Int) := by
  rw [u32_xor_nat _ _ x.isLt y.isLt, BitVec.toNat_xor]
theorem and_u32 (x y : BitVec 32) : bits .and .u32 (x.toNat : Int) (y.toNat : Int) = ((x &&& y).toNat : Int) := by
  rw [u32_and_nat _ _ x.isLt y.isLt, BitVec.toNat_and]
theorem low_u32 (x : BitVec 32) : bits .and .u32 (x.toNat : Int) 1 = if x.getLsbD 0 then 1 else 0 := by
  have h := u32_and_nat x.toNat 1 x.isLt (by decide)
  rw [show ((1 : Nat) : Int) = 1 from rfl] at h
  rw [h, Nat.and_one_is_mod]
  rw [BitVec.getLsbD, Nat.testBit_zero]
  by_cases hb : x.toNat % 2 = 1 <;> simp [hb] <;> omega
theorem half_u32 (x y : BitVec 32) (hy : y = x >>> 1) : (x.toNat : Int) / 2 = (y.toNat : Int) := by
  rw [hy, BitVec.toNat_ushiftRight, Nat.shiftRight_eq_div_pow]; simp
theorem round_u32 (x : BitVec 32) : bits .xor .u32 ((x.toNat : Int) / 2) (bits .and .u32 3988292384 (IntKind.u32.wrap (-(bits .and .u32 (x.toNat : Int) 1)))) = ((crcStep x).toNat : Int) := by
  rw [low_u32, half_u32 x _ rfl]
  unfold crcStep
  by_cases hb : x.getLsbD 0 = true
  · rw [if_pos hb, if_pos hb]
    have h1 : IntKind.u32.wrap (-1) = ((0xffffffff#32).toNat : Int) := by rw [IntKind.wrap_u32']; decide
    have h2 : (3988292384 : Int) = ((0xedb88320#32).toNat : Int) := by decide
    rw [h1, h2, and_u32, xor_u32]
    congr 2
  · rw [if_neg hb, if_neg hb]
    have h1 : IntKind.u32.wrap (-0) = ((0#32).toNat : Int) := by rw [IntKind.wrap_u32']; decide
    have h2 : (3988292384 : Int) = ((0xedb88320#32).toNat : Int) := by decide
    rw [h1, h2, and_u32, xor_u32]
    congr 2

/-! a turned byte turns it -/
theorem crcStep_inj {x y : BitVec 32} (h : crcStep x = crcStep y) : x = y := by
  unfold crcStep at h
  have top : ∀ z : BitVec 32, ((z >>> 1) ^^^ (if z.getLsbD 0 then 0xedb88320#32 else 0#32)).getLsbD 31 = z.getLsbD 0 := by
    intro z
    cases hz : z.getLsbD 0
    · rw [if_neg (by simp)]; simp
    · rw [if_pos rfl]; simp
  have h0 : x.getLsbD 0 = y.getLsbD 0 := by rw [← top x, ← top y, h]
  rw [h0] at h
  have h1 : x >>> 1 = y >>> 1 := by
    have := congrArg (· ^^^ (if y.getLsbD 0 then 0xedb88320#32 else 0#32)) h
    simpa [BitVec.xor_assoc] using this
  apply BitVec.eq_of_getLsbD_eq
  intro i hi
  rcases i with _ | i
  · exact h0
  · have := congrArg (fun z : BitVec 32 => z.getLsbD i) h1
    simpa [Nat.add_comm] using this
theorem crcSteps_inj : ∀ (n : Nat) {x y : BitVec 32}, crcSteps n x = crcSteps n y → x = y
  | 0, _, _, h => h
  | n + 1, _, _, h => crcStep_inj (crcSteps_inj n h)
theorem crcByte_inj {x y : BitVec 32} (c : UInt8) (h : crcByte x c = crcByte y c) : x = y := by
  have := crcSteps_inj 8 h
  have h2 := congrArg (· ^^^ BitVec.ofNat 32 c.toNat) this
  simpa [BitVec.xor_assoc] using h2
theorem crcByte_inj2 {x : BitVec 32} {c d : UInt8} (h : crcByte x c = crcByte x d) : c = d := by
  have := crcSteps_inj 8 h
  have h2 := congrArg (x ^^^ ·) this
  simp only [← BitVec.xor_assoc, BitVec.xor_self, BitVec.zero_xor] at h2
  have h3 := congrArg BitVec.toNat h2
  simp only [BitVec.toNat_ofNat] at h3
  have := c.toNat_lt; have := d.toNat_lt
  apply UInt8.toNat_inj.1
  omega
theorem crcF_inj : ∀ (l : List UInt8) {x y : BitVec 32}, crcF x l = crcF y l → x = y
  | [], _, _, h => h
  | c :: r, _, _, h => crcByte_inj c (crcF_inj r h)
theorem crcF_set (l : List UInt8) (x : BitVec 32) (i : Nat) (c : UInt8) (hi : i < l.length) (hc : c ≠ l[i]) : crcF x (l.set i c) ≠ crcF x l := by
  induction l generalizing x i with
  | nil => simp at hi
  | cons a r ih =>
    rcases i with _ | i
    · intro h
      exact hc (crcByte_inj2 (crcF_inj r h))
    · exact ih (crcByte x a) i (by simpa using hi) hc
theorem crcS_set (l : List UInt8) (i : Nat) (c : UInt8) (hi : i < l.length) (hc : c ≠ l[i]) : crcS (l.set i c) ≠ crcS l := by
  intro h
  have := congrArg (· ^^^ 0xffffffff#32) h
  simp only [crcS, BitVec.xor_assoc, BitVec.xor_self, BitVec.xor_zero] at this
  exact crcF_set l _ i c hi hc this

/-! the reference's bits -/
def refStep (x : BitVec 32) (bit : Bool) : BitVec 32 := (x >>> 1) ^^^ (if bit != x.getLsbD 0 then 0xedb88320#32 else 0#32)
def refSteps (c : UInt8) (x : BitVec 32) : Nat → BitVec 32
  | 0 => x
  | k + 1 => refStep (refSteps c x k) (c.toNat.testBit k)
theorem ref_steps (c : UInt8) (x : BitVec 32) (k : Nat) (hk : k ≤ 8) : crcSteps k (x ^^^ BitVec.ofNat 32 c.toNat) = refSteps c x k ^^^ (BitVec.ofNat 32 c.toNat >>> k) := by
  induction k with
  | zero => simp [crcSteps, refSteps]
  | succ k ih =>
    rw [crcSteps_succ, ih (by omega)]
    unfold crcStep
    simp only [refSteps, refStep]
    have hc := c.toNat_lt
    have hb : (refSteps c x k ^^^ (BitVec.ofNat 32 c.toNat >>> k)).getLsbD 0 = (c.toNat.testBit k != (refSteps c x k).getLsbD 0) := by
      rw [BitVec.getLsbD_xor, BitVec.getLsbD_ushiftRight, BitVec.getLsbD_ofNat]
      simp [show k < 32 by omega, Bool.xor_comm]
    rw [hb]
    have hs : (refSteps c x k ^^^ (BitVec.ofNat 32 c.toNat >>> k)) >>> 1 = (refSteps c x k >>> 1) ^^^ (BitVec.ofNat 32 c.toNat >>> (k + 1)) := by
      rw [BitVec.ushiftRight_xor_distrib, BitVec.shiftRight_add]
    rw [hs]
    simp only [BitVec.xor_assoc]
    congr 1
    rw [BitVec.xor_comm]
theorem ref_byte (c : UInt8) (x : BitVec 32) : refSteps c x 8 = crcByte x c := by
  unfold crcByte
  rw [ref_steps c x 8 (by omega)]
  have : BitVec.ofNat 32 c.toNat >>> 8 = 0#32 := by
    apply BitVec.eq_of_toNat_eq
    have := c.toNat_lt
    simp [BitVec.toNat_ushiftRight, Nat.shiftRight_eq_div_pow]
    omega
  rw [this, BitVec.xor_zero]
theorem refStep_val (z : BitVec 32) (bit : Bool) : ((refStep z bit).toNat : Int) = if bit = z.getLsbD 0 then (z.toNat : Int) / 2 else bits .xor .u32 ((z.toNat : Int) / 2) 3988292384 := by
  unfold refStep
  rw [half_u32 z _ rfl]
  by_cases h : bit = z.getLsbD 0
  · rw [if_pos h, h]; simp
  · rw [if_neg h]
    have hb : (bit != z.getLsbD 0) = true := by simpa using h
    rw [if_pos hb]
    have h2 : (3988292384 : Int) = ((0xedb88320#32).toNat : Int) := by decide
    rw [h2, xor_u32]
end Go.Proofs.YtccadcefhfdmgaaGreatDoor
