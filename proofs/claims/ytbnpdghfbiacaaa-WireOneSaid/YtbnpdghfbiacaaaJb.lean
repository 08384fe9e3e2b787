/- Bytes that came in. No condition beyond what each theorem states. -/
import Derived.Test.YtbnpdghfbiacaaaBy
import Derived.ProofKit
import Derived.PlainAid
import Derived.WideShapes
import Derived.OpenShut
import Derived.ChangeOld
import Derived.SizedLaws
namespace Go.Proofs.Ytbnpdghfbiacaaa
open Go Go.RowKit Go.PlainAid Go.ChangeShapes Go.WideShapes Go.ChangeAt
section
variable {H : Type} {enc : TypeId × Value → H} {P : Program}
theorem addr_plain {w : World} {a : Addr} {v : Value} (h : w.cell? (a.add 0) = some v) : ∃ b o, a = ⟨b, o, none⟩ := by
  obtain ⟨b, o, s⟩ := a
  cases s with
  | none => exact ⟨b, o, rfl⟩
  | some s =>
    exfalso
    simp only [World.cell?, Addr.add, if_true] at h
    split at h <;> simp_all
/-- a number that a byte holds -/
def u8of (z : Int) : UInt8 := UInt8.ofNat z.toNat
theorem u8of_val {z : Int} (h : (Lit.int .u8 z).wf = true) : ((u8of z).toNat : Int) = z := by
  have hb : 0 ≤ z ∧ z < 256 := by
    simp [Lit.wf, IntKind.min, IntKind.max, IntKind.signed, IntKind.bits] at h
    omega
  unfold u8of
  rw [UInt8.toNat_ofNat']
  omega
/-- cells of bytes that came in -/
theorem argB_cells {W : World} {a : Option Addr} {len cap : Nat} {zs : List Int} (hz : zs.length = cap) (hl : len ≤ cap) (ha : a = none → cap = 0) (hw : ∀ n ∈ zs, (Lit.int .u8 n).wf = true)
    (hc : ∀ a', a = some a' → ∀ c, c < cap → W.cell? (a'.add c) = some (.int .u8 (zs.getD c 0))) : ArgB W (.slice a len cap) ((zs.take len).map u8of) := by
  have hlen : ((zs.take len).map u8of).length = len := by simp [hz, hl]
  refine ⟨a, cap, by rw [hlen], by rw [hlen]; exact hl, fun hne => ?_⟩
  have h0 : 0 < cap := by
    rcases Nat.eq_zero_or_pos cap with h0 | h0
    · exfalso; apply hne; rw [List.eq_nil_of_length_eq_zero (show ((zs.take len).map u8of).length = 0 by rw [hlen]; omega)]; rfl
    · exact h0
  obtain ⟨a', rfl⟩ : ∃ a', a = some a' := by
    cases a with
    | none => have := ha rfl; omega
    | some a' => exact ⟨a', rfl⟩
  obtain ⟨b, o, rfl⟩ := addr_plain (hc a' rfl 0 h0)
  refine ⟨b, o, rfl, fun j v hv => ?_⟩
  rw [u8s_get] at hv
  have hj : j < ((zs.take len).map u8of).length := by
    rcases Nat.lt_or_ge j ((zs.take len).map u8of).length with h' | h'
    · exact h'
    · rw [List.getElem?_eq_none h'] at hv; simp at hv
  rw [List.getElem?_eq_getElem hj] at hv
  simp only [Option.map_some, Option.some.injEq] at hv
  subst hv
  rw [hlen] at hj
  have hjz : j < zs.length := by omega
  rw [← Addr.add_mid, hc _ rfl j (by omega), List.getElem_map, List.getElem_take, List.getD_eq_getElem?_getD, List.getElem?_eq_getElem hjz, u8of_val (hw _ (List.getElem_mem hjz))]
  rfl
/-- bytes that came in -/
theorem open_bytesA {W : World} {b0 : Nat} {t e : TypeId} {v : Value} {d : DataW H} {ps : List MemPlace} (ht : P.underlying t = some (.slice e)) (he : P.underlying e = some (.int .u8))
    (ce : P.cellsOf e = 1) (be : P.bytesOf e = 1) (hv : Value.okWide P W .any b0 t v) (h : DataW.Trod enc P W 0 (fun _ => true) true t v d ps)
    (hz : ∀ n ∈ d.weights P t, n ≤ reachBytes) :
    ∃ (A : Option Addr) (n c : Nat) (l : List UInt8), v = .slice A n c ∧ ArgB W (.slice A n c) l ∧ c ≤ 140737488351232 := by
  obtain ⟨a, len, cap, rfl⟩ := okWide_slice ht hv
  obtain ⟨fuel, hf⟩ := h
  rcases open_ints ht he ce hf with ⟨hcs, hx⟩ | ⟨a', len', cap', zs, hcs, _, hl, hm, hn, hx, hc, hs⟩
  · simp [Value.cells] at hcs
    obtain ⟨rfl, rfl, rfl⟩ := hcs
    exact ⟨none, 0, 0, [], rfl, ArgB.nil _ _ _, by simp⟩
  · simp [Value.cells] at hcs
    obtain ⟨rfl, rfl, rfl⟩ := hcs
    have hn' : zs.length = cap := by simpa using hn
    injection hx with hd _
    have hw := hz ((len + (cap - len)) * P.bytesOf e) (by rw [hd]; simp [DataW.weights, ht, hn', lits, Nat.min_eq_left hl])
    rw [be] at hw
    refine ⟨some a', len, cap, _, rfl, argB_cells hn' hl (fun h => by cases h) hs (fun a'' h c hcc => by injection h with h; subst h; exact hc c (by omega)), by simp [reachBytes] at hw; omega⟩
end
end Go.Proofs.Ytbnpdghfbiacaaa
