/- The law's packed by contract: records packed one behind the other. No condition beyond what each theorem states. -/
import Derived.Test.YthncnkkpfcbkfaaDoorSp
import Derived.Test.YthncnkkpfcbkfaaDoorRm
namespace Go.Proofs.YthncnkkpfcbkfaaDoor
open Go Go.RowKit

theorem own_cs {w : World} {B n : Nat} {t : TypeId} {v : Value} {xs : List Value} (h : w.ownsRow B t 1 v n xs) : ∃ A c, v = .slice A n c ∧ n ≤ c ∧ c ≤ maxLen ∧ Cs w A xs := by
  obtain ⟨A, c, hv, hc, hm⟩ := own_cap h
  subst hv
  refine ⟨A, c, rfl, hc, hm, fun hx => ?_⟩
  rcases h.2 with ⟨_, h0⟩ | ⟨g, cap, cur, hv, _, _, _, _, _, _⟩
  · exact absurd (List.eq_nil_of_length_eq_zero (by have := h.1; omega)) hx
  · injection hv with hv
    subst hv
    refine ⟨g, 0, rfl, fun j v hv => ?_⟩
    have := h.cells (g := g) rfl j v hv
    rwa [Addr.add_mid] at this
/-- lists more -/
theorem Rows.pushs {w w1 : World} {B : Nat} {v v1 : Value} {L M : List (List UInt8)} {n m k : Nat} {xs ys : List Value}
    (hown : w.ownsRow B 26 1 v n xs) (hn : n = L.length) (hrows : ∀ i (h : i < L.length), ∃ x, xs[i]? = some x ∧ OwnB w B x L[i])
    (hys : ys.length = k) (hk : k = M.length) (hrows2 : ∀ i (h : i < M.length), ∃ x, ys[i]? = some x ∧ OwnB w B x M[i])
    (hown1 : w1.ownsRow B 26 1 v1 m (xs ++ ys)) (hm : m = L.length + M.length) (hk1 : Kp (fun k => v.ownBlock = some k) w w1) : Rows w1 B v1 (L ++ M) := by
  subst hn hm hk
  have hxs : xs.length = L.length := by have := hown.1; omega
  refine ⟨xs ++ ys, by simpa using hown1, fun i hi => ?_⟩
  by_cases hlt : i < L.length
  · obtain ⟨y, hy, hr⟩ := hrows i hlt
    refine ⟨y, by rw [List.getElem?_append_left (by omega)]; exact hy, ?_⟩
    rw [List.getElem_append_left hlt]
    exact hr.kp hk1 fun g hg => own_apart hown hr (by decide) g hg
  · have hi' : i - L.length < M.length := by simp at hi; omega
    obtain ⟨y, hy, hr⟩ := hrows2 (i - L.length) hi'
    refine ⟨y, by rw [List.getElem?_append_right (by omega), hxs]; exact hy, ?_⟩
    rw [List.getElem_append_right (by omega)]
    exact hr.kp hk1 fun g hg => own_apart hown hr (by decide) g hg
/-- append(v, u...) of lists of bytes -/
theorem wpList_appRs (w : World) {ops : Array Oper} {rest : List Oper} {o : Oper} {a : Act} {Q : Exit → Act → World → Prop} (hgd : o.guard = none) (s x : Operand)
    (ho : o.op = .call { callee := .builtin .append, args := #[s, x], argTypes := #[22, 22] })
    (base : Nat) (v : Value) (L : List (List UInt8)) (hs : a.eval s = v) (hown : Rows w base v L) (u : Value) (M : List (List UInt8)) (hx : a.eval x = u) (hu : Rows w base u M)
    (hn : (L.length + M.length) * 24 ≤ 140737488355328) (hbase : base ≤ w.heap.size)
    (h : ∀ A' c' w', Rows w' base (.slice A' (L.length + M.length) c') (L ++ M) → Kp (fun k => v.ownBlock = some k) w w' → (∀ w0, w0.heap.size ≤ base → Kp No w0 w → Kp No w0 w') → wpList Tryd.prog ops Q rest (a.put o.dst (.slice A' (L.length + M.length) c')) w') : wpList Tryd.prog ops Q (o :: rest) a w := by
  obtain ⟨xs, ho1, hr⟩ := hown
  obtain ⟨ys, ho2, hr2⟩ := hu
  have hyl : ys.length = M.length := by have := ho2.1; omega
  obtain ⟨A, c, hv, _, _, hc⟩ := own_cs ho2
  refine wpList_appV w hgd s x 22 ho base 26 _ 24 Tryd.underlying22 Tryd.infoBytes' rfl v L.length xs hs ho1 A M.length c ys (hx.trans hv) hyl hc (fun y hy => ?_) (by omega) (by omega) hbase ?_
  · obtain ⟨i, hi, e⟩ := List.mem_iff_getElem.1 hy
    obtain ⟨z, hz, hoz⟩ := hr2 i (by omega)
    rw [List.getElem?_eq_getElem hi, e] at hz
    injection hz with hz
    subst hz
    obtain ⟨_, _, e2, _⟩ := own_len hoz
    subst e2
    rfl
  intro v' w' o1 k1 _
  obtain ⟨A', c', e, _⟩ := own_len o1
  subst e
  exact h _ _ w' (Rows.pushs ho1 rfl hr hyl rfl hr2 o1 rfl k1) k1 (fun w0 h0 k => k.then_ k1 fun i hi hm => by have := (ho1.lt i hm).1; omega)

theorem chunk_le {d : List UInt8} (h : d.length ≤ 188) : chunkN d ≤ 4 := by unfold chunkN; omega
theorem chunk_pos (d : List UInt8) : 1 ≤ chunkN d := by unfold chunkN; omega
theorem packL_le (gen : Nat) : ∀ (r : List (List UInt8)) (s : Nat), (∀ d ∈ r, d.length ≤ 188) → (packL gen s r).length ≤ 4 * r.length
  | [], _, _ => Nat.le_refl _
  | d :: r, s, h => by
    have := packL_le gen r (s + 1) (fun e he => h e (List.mem_cons_of_mem _ he))
    have h2 := chunk_le (h d (List.mem_cons_self ..))
    simp only [packL, List.length_append, partsS_length, List.length_cons]
    omega
theorem packL_split (gen : Nat) : ∀ (r t : List (List UInt8)) (s : Nat), packL gen s (r ++ t) = packL gen s r ++ packL gen (s + r.length) t
  | [], t, s => by simp [packL]
  | d :: r, t, s => by
    simp only [List.cons_append, packL, List.length_cons]
    rw [packL_split gen r t (s + 1), List.append_assoc, show s + 1 + r.length = s + (r.length + 1) by omega]
/-- what packed answers -/
def PackedR (w w' : World) (gen : Int) (R : List (List UInt8)) (e : Ending) : Prop := Kp No w w' ∧
  ((∃ A c, e = .returned (.tuple #[.slice A (packL gen.toNat 0 R).length c, .bool true]) ∧ Rows w' w.heap.size (.slice A (packL gen.toNat 0 R).length c) (packL gen.toNat 0 R) ∧ (∀ d ∈ R, d.length ≤ 188) ∧ (R = [] ∨ 1 ≤ gen ∧ gen ≤ 1073741824)) ∨
   (e = .returned (.tuple #[.slice none 0 0, .bool false]) ∧ ((∃ d ∈ R, 188 < d.length) ∨ gen < 1 ∨ 1073741824 < gen)))
/-- what its loop keeps -/
def PackedInv (w : World) (gen : Int) (R : List (List UInt8)) (v iv : Value) (wr : World) : Prop :=
  ∃ (k : Nat) (A : Option Addr) (c : Nat), k ≤ R.length ∧ iv = .int .i64 k ∧ v = .slice A (packL gen.toNat 0 (R.take k)).length c ∧ Rows wr w.heap.size v (packL gen.toNat 0 (R.take k)) ∧ (∀ d ∈ R.take k, d.length ≤ 188) ∧ (k = 0 ∨ 1 ≤ gen ∧ gen ≤ 1073741824) ∧ Kp No w wr

set_option maxRecDepth 100000 in
set_option maxHeartbeats 4000000 in
theorem packed_any (gen : Int) (v : Value) (R : List (List UInt8)) (w : World) (hv : ArgR w v R) (hR : R.length ≤ 40) (hl : ∀ l ∈ R, l.length ≤ 140737488355327) :
    Calls Tryd.prog 21 #[.int .i64 gen, v] w fun e w' => PackedR w w' gen R e := by
  obtain ⟨A, c, rfl, hc, hx⟩ := hv.at_
  have HX := Lib.hid hx; have HLL := Lib.hid hl
  clear hx hv hl
  go_enter Tryd.func21, Tryd.ntmps21
  go_wp2
  go_loopw [6, 13] (fun v i wr => PackedInv w gen R v i wr) (fun _ i _ => R.length - (intOf i).toNat)
  case atStart => exact ⟨0, none, 0, Nat.zero_le _, rfl, by simp [packL], by simpa [packL] using Rows.nil _ _, by simp, .inl rfl, Kp.refl _ _⟩
  case round =>
    obtain ⟨k, Av, cv, hk, rfl, rfl, hrows, hshort, hgen, hkp⟩ := hrel
    have HR := Lib.hid hrows; have HKP := Lib.hid hkp; have HSH := Lib.hid hshort; have hwr := hkp.size
    have hlen4 := packL_le gen.toNat (R.take k) 0 hshort
    have htk : (R.take k).length = k := by rw [List.length_take]; omega
    rw [htk] at hlen4
    have HTK := Lib.hid htk
    clear hrows hkp hshort htk
    by_cases hlt : k < R.length
    · obtain ⟨g, o, a1, k1, rfl, hcx, hx2⟩ := HX.out k hlt
      have hcx' := cell_no hcx HKP.out
      have hik : (k : Int) < (R.length : Int) := by omega
      have hi0 : (0 : Int) ≤ (k : Int) := by omega
      have hnext : R.take (k + 1) = R.take k ++ [R[k]] := List.take_succ_eq_append_getElem hlt
      have hll := HLL.out R[k] (List.getElem_mem hlt)
      have hmem : R[k] ∈ R := List.getElem_mem hlt
      obtain ⟨l, hl'⟩ : ∃ l, R[k] = l := ⟨_, rfl⟩
      rw [hl'] at hcx' hx2 hnext hll hmem
      have HNX := Lib.hid hnext; have HA := Lib.hid (hx2.no HKP.out); have HM := Lib.hid hmem
      clear hnext hx2 hl' hcx hmem
      go_wp2_with (at_builtin; refine wpList_appB _ rfl (.tmp 21) (.tmp 22) rfl wr.heap.size _ [] rfl (by exact own_fresh wr _ _ (Nat.le_refl _)) _ _ _ l rfl rfl ((HA.out.no ((Kp.refl No _).alloc _)).cs.1) (by simp; omega) (by simp) ?_)
      intro a2 n2 c2 w2 o2 f2 _
      have K2 := Lib.hid (f2 wr (Nat.le_refl _) ((Kp.refl No wr).alloc _))
      obtain ⟨A3, c3, e3, _, hm3⟩ := own_cap o2
      injection e3 with e1 e2 e3
      subst e1 e3
      clear e2
      have HA2 := Lib.hid (own_argB o2); clear o2 f2
      have pk := pack_any gen (k : Int) a2 n2 c2 l w2 HA2.out hm3
      by_cases hg : 1 ≤ gen ∧ gen ≤ 1073741824
      · by_cases hl8 : l.length ≤ 188
        · have hp : packS gen (k : Int) l = (partsS gen.toNat k l, 0) := by unfold packS; rw [if_neg (by omega), if_neg (by omega)]; rfl
          unfold PackA at pk
          rw [hp] at pk
          clear hp
          simp only at pk
          go_wp2_with fail
          refine pk.mono ?_
          clear pk
          rintro e w3 ⟨v3, rfl, r3, k3⟩
          have hch := chunk_le hl8
          have K3 := Lib.hid (K2.out.trans k3)
          have R3 := Lib.hid (r3.mono (Nat.le_trans hwr K2.out.size)); have RV := Lib.hid (HR.out.no K3.out)
          have HPL := Lib.hid (partsS_length gen.toNat k l)
          clear r3 k3
          go_wp2_with (at_builtin; refine wpList_appRs _ rfl (.tmp 29) (.tmp 30) rfl w.heap.size _ (packL gen.toNat 0 (R.take k)) rfl RV.out _ (partsS gen.toNat k l) rfl R3.out (by rw [HPL.out]; omega) (by have := K3.out.size; omega) ?_)
          intro A4 c4 w4 r4 _ f4
          have K4 := Lib.hid (f4 w (Nat.le_refl _) (HKP.out.trans K3.out))
          have hpl : packL gen.toNat 0 (R.take (k + 1)) = packL gen.toNat 0 (R.take k) ++ partsS gen.toNat k l := by
            rw [HNX.out, packL_snoc, HTK.out, Nat.zero_add]
          have R4 := Lib.hid (show Rows w4 w.heap.size (.slice A4 ((packL gen.toNat 0 (R.take k)).length + (partsS gen.toNat k l).length) c4) (packL gen.toNat 0 (R.take (k + 1))) by rw [hpl]; exact r4)
          have HPQ := Lib.hid hpl
          clear r4 f4 hpl
          go_wp2
          go_roundw
          case rel =>
            refine ⟨k + 1, A4, c4, by omega, by go_num, by rw [HPQ.out, List.length_append], R4.out, ?_, .inr hg, K4.out⟩
            rw [HNX.out]
            intro d hd
            rcases List.mem_append.1 hd with hd | hd
            · exact HSH.out d hd
            · rw [List.mem_singleton.1 hd]; exact hl8
          case measure => simp [intOf]; omega
        · have hp : packS gen (k : Int) l = ([], 41) := by unfold packS; rw [if_neg (by omega), if_pos (by omega)]
          unfold PackA at pk
          rw [hp] at pk
          clear hp
          simp only at pk
          go_wp2_with fail
          refine pk.mono ?_
          clear pk
          rintro e w3 ⟨v3, rfl, r3, k3⟩
          have K3 := Lib.hid (HKP.out.trans (K2.out.trans k3)); clear k3 r3
          go_wp2
          go_ret2
          exact ⟨K3.out, .inr ⟨rfl, .inl ⟨l, HM.out, by omega⟩⟩⟩
      · have hp : packS gen (k : Int) l = ([], 2) := by unfold packS; rw [if_pos (by omega)]
        unfold PackA at pk
        rw [hp] at pk
        clear hp
        simp only at pk
        have HG := Lib.hid hg; clear hg
        go_wp2_with fail
        refine pk.mono ?_
        clear pk
        rintro e w3 ⟨v3, rfl, r3, k3⟩
        have K3 := Lib.hid (HKP.out.trans (K2.out.trans k3)); clear k3 r3
        go_wp2
        go_ret2
        exact ⟨K3.out, .inr ⟨rfl, .inr (by have := HG.out; omega)⟩⟩
    · obtain rfl : k = R.length := by omega
      have hall : R.take R.length = R := List.take_length
      rw [hall] at HR HSH
      have HAL := Lib.hid hall; clear hall
      go_wp2
      go_ret2
      refine ⟨HKP.out, .inl ⟨Av, cv, ?_, HR.out, HSH.out, ?_⟩⟩
      · have := HAL.out; first | rfl | (rw [this]; rfl) | (simp only [this]; rfl)
      · rcases hgen with h | h
        · exact .inl (List.eq_nil_of_length_eq_zero h)
        · exact .inr h
end Go.Proofs.YthncnkkpfcbkfaaDoor
