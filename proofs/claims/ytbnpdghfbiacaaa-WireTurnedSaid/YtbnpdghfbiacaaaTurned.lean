/- WireTurned: a message in whose bytes any one is turned is refused, for every message, place and byte. No condition. -/
import Derived.Test.YtbnpdghfbiacaaaAk
import Derived.Test.YtbnpdghfbiacaaaJm
import Derived.Laws.BitsAllLaws
import Derived.ProofKit
import Derived.OpenShut
import Derived.ShutString
import Derived.ChangeOld
import Derived.SizedLaws
import Derived.Below
namespace Go.Proofs.Ytbnpdghfbiacaaa.wireTurned
open Go.ChangeShapes Go.WideShapes Go.ChangeAt Go.RowKit
open Go.ChangeMaps (open_string shut_string)

theorem own : ownKnob Try.prog.godebug = none := by kernel_rfl
theorem laidOut : laidOutB Try.prog = true := by kernel_rfl
theorem xor_u8 (x y : UInt8) : bits .xor .u8 (x.toNat : Int) (y.toNat : Int) = ((x ^^^ y).toNat : Int) := by
  have hx := x.toNat_lt; have hy := y.toNat_lt
  rw [u8_xor_nat _ _ hx hy, UInt8.toNat_xor]
theorem own_bkB {w : World} {B a n c : Nat} {l : List UInt8} (h : OwnB w B (.slice (some ⟨a, 0, Option.none⟩) n c) l) : ∃ cs, Bk w a 5 cs ∧ cs.take l.length = u8s l ∧ l.length ≤ cs.length := by
  unfold OwnB at h
  rcases h.2 with ⟨hb, _⟩ | ⟨g', cap, cur, hv, hB, hh, h1, h2, h3, h4⟩
  · cases hb
  · injection hv with e1 e2 e3
    injection e1 with e1
    injection e1 with e1
    subst e1 e2 e3
    refine ⟨cur.toList, by unfold Bk; simpa using hh, by rw [← h4, Nat.mul_one], by simp; omega⟩
/-- a byte of an own row is turned -/
theorem own_turn {w : World} {B a c : Nat} {l : List UInt8} (h : OwnB w B (.slice (some ⟨a, 0, Option.none⟩) l.length c) l) (hc : l.length ≤ c) (i : Nat) (hi : i < l.length) (x : UInt8) :
    ArgB (w.setCell ⟨a, i, Option.none⟩ (.int .u8 (x.toNat : Int))) (.slice (some ⟨a, 0, Option.none⟩) (l.set i x).length c) (l.set i x) := by
  obtain ⟨cs, hb, ht, hl⟩ := own_bkB h
  have h2 := hb.set_ i (.int .u8 (x.toNat : Int))
  have e : cs.set i (.int .u8 (x.toNat : Int)) = u8s (l.set i x) ++ cs.drop l.length := by
    have h3 : cs = u8s l ++ cs.drop l.length := by rw [← ht, List.take_append_drop]
    conv => lhs; rw [h3]
    rw [List.set_append_left _ _ (by simpa using hi), u8s_set]
  rw [e] at h2
  exact bk_argB h2 (by simpa using hc)
theorem u8_ne {x y : UInt8} (h : y ≠ 0) : x ^^^ y ≠ x := fun e => h (by
  have h1 : x.toBitVec ^^^ y.toBitVec = x.toBitVec := by rw [← UInt8.toBitVec_xor, e]
  have h2 : y.toBitVec = 0#8 := by
    have h3 := congrArg (fun z => x.toBitVec ^^^ z) h1
    simp only [← BitVec.xor_assoc, BitVec.xor_self, BitVec.zero_xor] at h3
    exact h3
  exact UInt8.eq_of_toBitVec_eq h2)
set_option maxRecDepth 100000 in
set_option maxHeartbeats 4000000 in
theorem walk (m : Msg) (A : Option Addr) (c : Nat) (n y : Int) (W : World) (ha : ArgInts W (.slice A m.stamp.length c) m.stamp) (hr : Rng m) (hs : Short maxLen m) (hl : m.stamp.length ≤ 17592186043904)
    (hn : -9223372036854775808 ≤ n ∧ n ≤ 9223372036854775807) (hy : 0 ≤ y ∧ y ≤ 255) : Calls Try.prog 6 #[.agg (mcells m (.slice A m.stamp.length c)).toArray, .int .i64 n, .int .u8 y] W fun e w' => e = .returned (.bool true) ∧ Below W.heap.size W w' := by
  have kA : Kp No W (W.alloc (.cells (mcells m (.slice A m.stamp.length c)).toArray 29)) := (Kp.refl No W).alloc _
  have hB : Bk (W.alloc (.cells (mcells m (.slice A m.stamp.length c)).toArray 29)) W.heap.size 29 (mcells m (.slice A m.stamp.length c)) := Bk.new' rfl rfl
  have pa := awake_any (W.alloc (.cells (mcells m (.slice A m.stamp.length c)).toArray 29))
  have HA := Lib.hid (ha.no kA); have HB := Lib.hid hB; have HK := Lib.hid kA; have HR := Lib.hid hr; have HS := Lib.hid hs; have HL := Lib.hid hl
  have hu := Lib.hid Try.underlying29
  have hi : Hid ((Try.prog.info? 29).map (·.size) = some (mcells m (.slice A m.stamp.length c)).length) := Lib.hid (by kernel_rfl)
  clear ha hB kA hr hs hl
  simp only [mcells] at pa HB HK HA
  have HB0 := Lib.hid (show Bk _ W.heap.size 29 (mcells m (.slice A m.stamp.length c)) from HB.out)
  clear HB
  unfold mcells
  go_enter Try.func6, Try.ntmps6
  go_wp2_with fail
  refine pa.mono ?_
  rintro e w1 ⟨rfl, k1⟩
  have HB1 := Lib.hid (HB0.out.no k1); have K1 := Lib.hid (HK.out.trans k1); have HA1 := Lib.hid (HA.out.no k1)
  clear pa k1 HB0 HK HA
  have po := own_any m (.slice A m.stamp.length c) w1 HA1.out (by have := HL.out; omega)
  go_wp2_with (refine wpList_load_mid rfl _ _ rfl W.heap.size 0 rfl (mcells m (.slice A m.stamp.length c)) _ (range_of HB1.out) hu.out rfl hi.out ?_)
  refine po.mono ?_
  rintro e w2 ⟨sv, rfl, ho, k2⟩
  have K2 := Lib.hid (K1.out.trans k2)
  have pe := encode_any m sv w2 (own_slI ho) HR.out HS.out
  clear po ho k2
  go_wp2_with fail
  refine pe.mono ?_
  rintro e w3 ⟨hres, k3⟩
  have K3 := Lib.hid (K2.out.trans k3)
  clear pe k3
  rcases hres with ⟨_, rfl⟩ | ⟨v, b, henc, rfl, hob⟩
  · go_wp2
    go_ret
    exact ⟨rfl, K3.out.below (Nat.le_refl _) fun _ _ m => m⟩
  have hlen := enc_len vpP_len henc
  have hpos : 0 < b.length := by omega
  obtain ⟨g, cp, rfl, hcp, _, _⟩ := own_form hob hpos
  have HE := Lib.hid henc; have HO := Lib.hid hob; have HCP := Lib.hid hcp
  clear henc hob hcp
  have hcase : n < 0 ∨ (0 ≤ n ∧ (b.length : Int) ≤ n) ∨ (0 ≤ n ∧ n < (b.length : Int) ∧ y = 0) ∨ (0 ≤ n ∧ n < (b.length : Int) ∧ y ≠ 0) := by omega
  rcases hcase with h1 | ⟨h1, h2⟩ | ⟨h1, h2, h3⟩ | ⟨h1, h2, h3⟩
  · go_wp2
    go_ret
    exact ⟨rfl, K3.out.below (Nat.le_refl _) fun _ _ m => m⟩
  · go_wp2
    go_ret
    exact ⟨rfl, K3.out.below (Nat.le_refl _) fun _ _ m => m⟩
  · subst h3
    go_wp2
    go_ret
    exact ⟨rfl, K3.out.below (Nat.le_refl _) fun _ _ m => m⟩
  · obtain ⟨k, rfl⟩ : ∃ k : Nat, n = (k : Int) := ⟨n.toNat, by omega⟩
    have hk : k < b.length := by omega
    obtain ⟨z, hz⟩ : ∃ z : UInt8, (z.toNat : Int) = y := ⟨UInt8.ofNat y.toNat, by rw [UInt8.toNat_ofNat']; omega⟩
    have hz0 : z ≠ 0 := fun e => h3 (by rw [← hz, e]; rfl)
    have d3 : (y == 0) = false := by rw [beq_eq_false_iff_ne]; exact h3
    have hx := (own_argB HO.out).at_ hpos
    obtain ⟨g', o', c', e1, _, hxx⟩ := hx
    have hxk := hxx k _ (List.getElem?_eq_getElem hk)
    injection e1 with e1 _ e1c
    injection e1 with e1
    injection e1 with e1 e2
    subst e1 e2 e1c
    rw [Nat.zero_add] at hxk
    have HD := Lib.hid (dec_turned HE.out k hk (b[k] ^^^ z) (u8_ne hz0))
    have HT := Lib.hid (own_turn HO.out HCP.out k hk (b[k] ^^^ z))
    have hx8 := xor_u8 b[k] z
    rw [hz] at hx8
    have zf : w3.frozen? ⟨g, k, none⟩ = false := by
      obtain ⟨cs, hb, _⟩ := own_bkB HO.out
      exact hb.frozen k
    have KS : Kp (One g) w3 (w3.setCell ⟨g, k, none⟩ (.int .u8 ((b[k] ^^^ z).toNat : Int))) := (Kp.refl (One g) w3).set (.inl rfl) k _
    have K4 := Lib.hid (K3.out.then_ KS fun i hi e => by
      have := (HO.out.lt g rfl).1
      have e : i = g := e
      have := K2.out.size
      omega)
    have hsl : (b.set k (b[k] ^^^ z)).length = b.length := by simp
    have pd := decode_any (some ⟨g, 0, none⟩) cp (b.set k (b[k] ^^^ z)) _ HT.out (by rw [hsl]; unfold maxLen; omega)
    rw [hsl] at pd
    have e1 : decM (b.set k (b[k] ^^^ z)) = {} := by unfold decM; rw [HD.out]; rfl
    have e2 : decE (b.set k (b[k] ^^^ z)) = 21 := by unfold decE; rw [HD.out]; rfl
    clear hxx HD HT KS hsl hz0 h3 HE HO
    generalize hxg : b[k] ^^^ z = x at *
    have HXG := Lib.hid hxg; clear hxg
    generalize b[k] = bk at *
    generalize b.set k x = b2 at *
    go_wp2_with fail
    refine pd.mono ?_
    rintro e w5 ⟨sv5, rfl, ho5, k5⟩
    rw [e1] at ho5 ⊢
    rw [e2]
    obtain ⟨A5, c5, rfl, _⟩ := own_len ho5
    have K5 := Lib.hid (K4.out.trans k5)
    clear pd ho5 k5 e1 e2 K4
    simp only [mcells]
    go_wp2
    go_ret
    exact ⟨rfl, (K5.out.alloc _).below (Nat.le_refl _) fun _ _ m => m⟩
/-! ### The row's step -/
set_option maxRecDepth 100000 in
theorem lifted (os : Os) (started : os.Started) (H : Type) (enc : TypeId × Value → H) :
    ReturnsInHanded {} Try.checked os 6 .any (Rows.wireTurnedSpec.pre6 enc Try.prog Try.f6 Rows.wireTurnedRow.domain false) (Rows.wireTurnedSpec.post enc Try.prog Try.f6 false true false false) := by
  refine returnsInHanded_of_change_sized (C := Try.checked) own started (by kernel_rfl) Try.func6
    (ChangeSpec.witness6 (enc := enc) (C := Try.checked) false ⟨#[], #[.agg #[.int .i64 0, .int .i64 0, .int .i64 0, .int .i64 0, .int .i64 0, .int .i64 0, .int .i64 0, .string ⟨#[]⟩, .int .i64 0, .int .i64 0, .int .i64 0, .bool false, .int .i64 0, .slice none 0 0, .int .i64 0, .int .i64 0], .int .i64 0, .int .u8 0], []⟩ 8 (by kernel_rfl) (by kernel_rfl) (by kernel_rfl) (by kernel_rfl)) ?_
  intro W base args ds gs before hval0 hW hcnd hsz0 _
  have hval : ∀ (j : Nat) t v, Try.f6.params[j]? = some t → args[j]? = some v → Value.okWide Try.prog W .any base t v := hval0
  have hW' := hW
  obtain ⟨p, q, hA0, hV, rfl, hfz, hnd⟩ := hW
  have hA : DataW.TrodAll enc Try.prog W 0 (fun _ => true) true Try.f6.params.toList args.toList ds p := hA0
  rw [Try.params6] at hA hval
  obtain ⟨v0, vs0, d0, ds0, p0, q0, hargs, rfl, rfl, h0, r0⟩ := trodAll_cons hA
  obtain ⟨v1, vs1, d1, ds1, p1, q1, rfl, rfl, rfl, h1, r1⟩ := trodAll_cons r0
  obtain ⟨v2, vs2, d2, ds2, p2, q2, rfl, rfl, rfl, h2, r2⟩ := trodAll_cons r1
  obtain ⟨rfl, rfl, rfl⟩ := trodAll_nil r2
  obtain rfl : args = #[v0, v1, v2] := by cases args; simp_all
  obtain ⟨rfl, rfl⟩ := trodVars_none hV
  have hsz : ∀ (j : Nat) (t : TypeId) (d : DataW H), ([29, 3, 5] : List TypeId)[j]? = some t → [d0, d1, d2][j]? = some d → ∀ n ∈ d.weights Try.prog t, n ≤ reachBytes := by
    intro j t d ht hd n hn
    have hsz1 : (DataW.weightsEach Try.prog ([29, 3, 5] : List TypeId) [d0, d1, d2]).all (· ≤ reachBytes) = true := hsz0
    have := List.all_eq_true.1 hsz1 n (DataW.weights_mem_each ht hd n hn)
    simpa using this
  have k0 := h0
  have lt0 : ∀ x ∈ p0, x.block < W.heap.size := by obtain ⟨m, hm⟩ := k0; exact DataW.trod_lt m _ _ _ hm
  obtain ⟨m0, A0, c0, rfl, a0, r0x, s0, z0⟩ := open_msg (hval 0 29 v0 rfl rfl) h0 (hsz 0 29 _ rfl rfl)
  have k1 := h1
  have lt1 : ∀ x ∈ p1, x.block < W.heap.size := by obtain ⟨m, hm⟩ := k1; exact DataW.trod_lt m _ _ _ hm
  obtain ⟨n1, rfl, rfl, rfl, x1⟩ := open_int Try.underlying3 (hval 1 3 v1 rfl rfl) h1
  have k2 := h2
  have lt2 : ∀ x ∈ p2, x.block < W.heap.size := by obtain ⟨m, hm⟩ := k2; exact DataW.trod_lt m _ _ _ hm
  obtain ⟨n2, rfl, rfl, rfl, x2⟩ := open_int Try.underlying5 (hval 2 5 v2 rfl rfl) h2
  refine (walk m0 A0 c0 n1 n2 W a0 r0x s0 z0 (bounds_i64 x1) (bounds_u8 x2)).mono fun e W' ⟨he, bel⟩ => ?_
  subst he
  exact ⟨_, rfl, _, _, _, [], _, [], hW', trodAll_mk1 (shut_bool Try.underlying4 _), (trodAll_cons_mk (Below.trod laidOut (by kernel_rfl) (of_decide_eq_true (by kernel_rfl)) k0 bel lt0) (trodAll_cons_mk (Below.trod laidOut (by kernel_rfl) (of_decide_eq_true (by kernel_rfl)) k1 bel lt1) (trodAll_cons_mk (Below.trod laidOut (by kernel_rfl) (of_decide_eq_true (by kernel_rfl)) k2 bel lt2) trodAll_mk0))), rfl, bel.frame _, fun h => by cases h⟩

theorem over : Rows.wireTurnedRow.holds Try.pinned (OpenSpec.ofChange Rows.wireTurnedSpec) :=
  OpenClaim.holds_of_wide 6 Try.f6 rfl rfl rfl rfl rfl rfl rfl ⟨rfl, rfl, rfl, rfl, rfl⟩ rfl rfl rfl rfl rfl (by kernel_rfl) Try.func6 (by kernel_rfl)
    (of_decide_eq_true (by kernel_rfl)) (by unfold Func.isWrapper; first | (rw [if_pos (by decide +kernel)]; kernel_rfl) | (rw [if_neg (by decide +kernel)]; exact ⟨rfl, rfl⟩))
    (fun os started H enc _ => lifted os started H enc)

theorem proved : Rows.WireTurnedSaid := over
#print axioms proved
end Go.Proofs.Ytbnpdghfbiacaaa.wireTurned
