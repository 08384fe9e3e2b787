/- DiskFrom returns true for every list of lists of bytes: a disk made of any sectors has just these, or is refused. No condition. -/
import Derived.Test.YtaohaofjbgghgaaH
import Derived.Test.YtaohaofjbgghgaaO
import Derived.ProofKit
import Derived.OpenShut
import Derived.ShutString
import Derived.ChangeOld
import Derived.SizedLaws
import Derived.Below
namespace Go.Proofs.Ytaohaofjbgghgaa.diskFrom
open Go.ChangeShapes Go.WideShapes Go.ChangeAt Go.RowKit
open Go.ChangeMaps (open_string shut_string)

theorem own : ownKnob Try.prog.godebug = none := by kernel_rfl
theorem laidOut : laidOutB Try.prog = true := by kernel_rfl

theorem own_byteRow {w : World} {B g n cap : Nat} {l : List UInt8} (h : w.ownsRow B 5 1 (.slice (some ⟨g, 0, none⟩) n cap) n (u8s l)) (hn : n = l.length) : ByteRow w B Option.none 5 (.slice (some ⟨g, 0, none⟩) n cap) l := by
  subst hn
  rcases h.2 with ⟨hb, _⟩ | ⟨g', cap', cur, hv, hB, hh, hnc, hcm, hcs, htk⟩
  · cases hb
  · injection hv with h1 h2 h3
    injection h1 with h1
    injection h1 with h1
    subst h1; subst h3
    refine ⟨g, cap, cur.toList.drop (l.length * 1), rfl, hnc, hB, by simp, ?_⟩
    rw [← htk, List.take_append_drop]
    unfold Bk; simpa using hh

set_option maxHeartbeats 4000000 in
theorem walk (v : Value) (L : List (List UInt8)) (w : World) (hv : ArgRows w v L) (hL : L.length * 24 ≤ reachBytes) (hl : ∀ l ∈ L, l.length ≤ reachBytes) :
    Calls Try.prog 6 #[v] w fun e w' => e = .returned (.bool true) ∧ Below w.heap.size w w' := by
  have hL2 : L.length ≤ 5864062014805 := by unfold reachBytes at hL; omega
  have hl2 : ∀ l ∈ L, l.length ≤ 140737488351232 := fun l h => by have := hl l h; unfold reachBytes at this; omega
  clear hL hl
  have HL2 := Lib.hid hl2; clear hl2
  have HV := Lib.hid hv
  obtain ⟨A, c, rfl, hx⟩ := hv.at_
  have HX := Lib.hid hx; clear hx hv
  go_enter Try.func6, Try.ntmps6
  go_wp2_with fail
  refine (awake_any _).mono ?_
  rintro e w0 ⟨rfl, k0⟩
  go_wp2
  go_loopw [14, 3] (fun i u wr => ∃ k : Nat, k ≤ L.length ∧ i = .int .i64 k ∧ Kp No w wr ∧ RowsOf wr w.heap.size u (L.take k) 5) (fun i _ _ => L.length - (intOf i).toNat)
  case atStart => exact ⟨0, Nat.zero_le _, rfl, k0, RowsOf.nil _ _ _⟩
  case round =>
    obtain ⟨k, hk, rfl, hkp, ⟨vs, hown, hrows⟩⟩ := hrel
    by_cases hlt : k < L.length
    · obtain ⟨g, o, B, d, rfl, hcx, hcs⟩ := HX.out k hlt
      have hc1 : wr.cell? ⟨g, o + k, none⟩ = some (.slice B L[k].length d) := by
        rw [World.cell?_of_block (w := w) (hkp.block g (World.block_lt_of_cell? w _ hcx) (fun m => m))]; exact hcx
      have hcs1 := hcs.no hkp
      clear hcs hcx
      have hk0 : (0 : Int) ≤ (k : Int) := by omega
      have hk1 : (k : Int) < (L.length : Int) := by omega
      have hlen : (L.take k).length = k := by simp; omega
      have hll := HL2.out _ (List.getElem_mem hlt)
      have hbase : w.heap.size ≤ wr.heap.size := hkp.size
      generalize hl : L[k] = l at *
      have HLk := Lib.hid hl; clear hl
      have hown0 := hown
      rw [hlen] at hown
      have HR := Lib.hid hrows; clear hrows
      have HO := Lib.hid hown0; clear hown0
      have HN := Lib.hid hlen; clear hlen
      have HC := Lib.hid hcs1; clear hcs1
      have hap : (wr.alloc (.cells #[] 5)).ownsRow wr.heap.size 5 1 (.slice (some ⟨wr.heap.size, 0, none⟩) 0 0) 0 [] := World.ownsRow_lit wr #[] 0 (Nat.le_refl _) (Nat.zero_le _) rfl
      go_wp2_with (first | (at_builtin; refine wpList_appN _ rfl _ _ 33 rfl wr.heap.size 5 _ 1 Try.underlying33 Try.info5 rfl wr.heap.size 0 0 [] rfl hap B l.length d (u8s l) rfl (u8s_length l) (HC.out.no ((Kp.refl No wr).alloc _)) (u8s_one l) (by omega) (by omega) (by simp) ?_; intro g2 cap2 w2 hown2 hk2 hat2; simp only [Nat.zero_add, List.nil_append] at hown2) | (at_builtin; refine wpList_app1 _ rfl _ _ 40 rfl w.heap.size 33 _ 1 24 Try.underlying40 Try.info33 rfl (by omega) _ k vs rfl ((own_kp (hown.alloc _) hk2 (fun g hg m => by have := (hown.lt g hg).2; omega)).alloc _) _ _ _ rfl (Bk.new' (by simp) rfl) rfl (by simp [Value.oneCell']) (by omega) (by omega) (by have := hk2.size; simp at this ⊢; omega) ?_; intro g3 cap3 w3 hown3 hk3 hat3))
      have hpush := RowsOf.push (l := l) (t := 5) (x := .slice (some ⟨g2, 0, none⟩) l.length cap2) HO.out HR.out ((((Kp.refl No wr).alloc (.cells #[] 5)).then_ hk2 (fun i hi m => by omega)).alloc (.cells #[.slice (some ⟨g2, 0, none⟩) l.length cap2] 33))
        ((own_byteRow hown2 rfl).keep (M := No) (av' := Option.none) ((Kp.refl _ _).alloc _) (fun _ _ _ _ => ⟨fun m => m, by simp⟩)) hbase (by rw [HN.out]; exact hown3) hk3 hat3
      rw [HN.out] at hpush
      have hkp3 : Kp No w w3 := ((((hkp.alloc (.cells #[] 5)).then_ hk2 (fun i hi m => by omega)).alloc _).then_ hk3 fun i hi e => by have := hown.lt i e; omega)
      go_roundw
      case rel =>
        refine ⟨k + 1, by omega, by go_num, hkp3, ?_⟩
        rw [List.take_add_one, List.getElem?_eq_getElem hlt, HLk.out]
        exact hpush
      case measure => simp [intOf]; omega
    · have hk' : k = L.length := by omega
      subst hk'
      rw [List.take_length] at hown hrows
      have hR : RowsOf wr w.heap.size _ L 5 := ⟨vs, hown, hrows⟩
      clear hown hrows
      go_wp2_with fail
      by_cases hn : 1 ≤ L.length ∧ L.length ≤ 512
      · refine (from_any _ L wr hR.arg hn.1 hn.2).mono ?_
        rintro e w1 ⟨k1, hbad, hgood⟩
        by_cases hg : Good L
        · obtain ⟨b, sb, cap, rfl, hb1, hb2, d1⟩ := hgood hg
          clear hbad hgood
          go_wp2_with fail
          refine (rfrom_any _ L w1 ((HV.out.no hkp).no k1) hn.1 hn.2).mono ?_
          rintro e w2 ⟨k2, _, hgood⟩
          obtain ⟨rb, u, rfl, r2⟩ := hgood hg
          clear hgood
          have d2 := d1.no k2
          go_wp2_with fail
          refine (image_any b sb cap _ L 0 false 0 false d2).mono ?_
          rintro e w3 ⟨z, rfl, hI, k3⟩
          have d3 := d2.no k3
          go_wp2_with fail
          refine (same_any z _ L L w3 hI.arg (((HV.out.no hkp).no k1).no k2 |>.no k3) rfl (by omega)).mono ?_
          rw [decide_eq_true rfl]
          rintro e w4 ⟨rfl, nd, rfl⟩
          have d4 := d3.no (drewN_no w3 nd)
          go_wp2_with fail
          refine (len_any b _ _ _ _ _ _ _ _ d4.st).mono ?_
          rintro e w5 ⟨rfl, rfl⟩
          go_wp2_with fail
          refine (writes_any b _ _ _ _ _ _ d4.st).mono ?_
          rintro e w5 ⟨rfl, rfl⟩
          go_wp2_with fail
          refine (off_any b _ _ _ _ _ _ d4.st).mono ?_
          rintro e w5 ⟨rfl, rfl⟩
          go_wp2
          go_ret
          exact ⟨rfl, ((((hkp.trans k1).trans k2).trans k3).drewN nd).below (Nat.le_refl _) (fun _ _ m => m)⟩
        · have := hbad hg
          subst this
          clear hbad hgood
          go_wp2_with fail
          refine (rfrom_any _ L w1 ((HV.out.no hkp).no k1) hn.1 hn.2).mono ?_
          rintro e w2 ⟨k2, hbad, _⟩
          have := hbad hg
          subst this
          clear hbad
          go_wp2
          go_ret
          exact ⟨rfl, ((hkp.trans k1).trans k2).below (Nat.le_refl _) (fun _ _ m => m)⟩
      · obtain ⟨A', c', xs', hu, _⟩ := hR.arg
        subst hu
        refine (from_no A' L.length c' (by omega) wr).mono ?_
        rintro e w1 ⟨rfl, rfl⟩
        go_wp2_with fail
        refine (rfrom_no _ L.length _ (by omega) _).mono ?_
        rintro e w2 ⟨rfl, rfl⟩
        go_wp2
        go_ret
        exact ⟨rfl, hkp.below (Nat.le_refl _) (fun _ _ m => m)⟩

/-! ### The row's step -/
set_option maxRecDepth 100000 in
theorem lifted (os : Os) (started : os.Started) (H : Type) (enc : TypeId × Value → H) :
    ReturnsInHanded {} Try.checked os 6 .any (Rows.diskFromSpec.pre6 enc Try.prog Try.f6 Rows.diskFromRow.domain false) (Rows.diskFromSpec.post enc Try.prog Try.f6 false true false false) := by
  refine returnsInHanded_of_change_sized (C := Try.checked) own started (by kernel_rfl) Try.func6
    (ChangeSpec.witness6 (enc := enc) (C := Try.checked) false ⟨#[], #[.slice none 0 0], []⟩ 8 (by kernel_rfl) (by kernel_rfl) (by kernel_rfl) (by kernel_rfl)) ?_
  intro W base args ds gs before hval0 hW hcnd hsz0 _
  have hval : ∀ (j : Nat) t v, Try.f6.params[j]? = some t → args[j]? = some v → Value.okWide Try.prog W .any base t v := hval0
  have hW' := hW
  obtain ⟨p, q, hA0, hV, rfl, hfz, hnd⟩ := hW
  have hA : DataW.TrodAll enc Try.prog W 0 (fun _ => true) true Try.f6.params.toList args.toList ds p := hA0
  rw [Try.params6] at hA hval
  obtain ⟨v0, vs0, d0, ds0, p0, q0, hargs, rfl, rfl, h0, r0⟩ := trodAll_cons hA
  obtain ⟨rfl, rfl, rfl⟩ := trodAll_nil r0
  obtain rfl : args = #[v0] := by cases args; simp_all
  obtain ⟨rfl, rfl⟩ := trodVars_none hV
  have hsz : ∀ (j : Nat) (t : TypeId) (d : DataW H), ([40] : List TypeId)[j]? = some t → [d0][j]? = some d → ∀ n ∈ d.weights Try.prog t, n ≤ reachBytes := by
    intro j t d ht hd n hn
    have hsz1 : (DataW.weightsEach Try.prog ([40] : List TypeId) [d0]).all (· ≤ reachBytes) = true := hsz0
    have := List.all_eq_true.1 hsz1 n (DataW.weights_mem_each ht hd n hn)
    simpa using this
  have k0 := h0
  have lt0 : ∀ x ∈ p0, x.block < W.heap.size := by obtain ⟨m, hm⟩ := k0; exact DataW.trod_lt m _ _ _ hm
  obtain ⟨L0, hL0, hs0, hi0⟩ := open_rows Try.underlying40 Try.underlying33 Try.underlying5 (by kernel_rfl) (by kernel_rfl) (by kernel_rfl) (by kernel_rfl) (hval 0 40 v0 rfl rfl) h0 (hsz 0 40 d0 rfl rfl)
  refine (walk v0 L0 W hL0 hs0 hi0).mono fun e W' ⟨he, bel⟩ => ?_
  subst he
  exact ⟨_, rfl, _, _, _, [], _, [], hW', trodAll_mk1 (shut_bool Try.underlying4 _), (trodAll_cons_mk (Below.trod laidOut (by kernel_rfl) (of_decide_eq_true (by kernel_rfl)) k0 bel lt0) trodAll_mk0), rfl, bel.frame _, fun h => by cases h⟩

theorem over : Rows.diskFromRow.holds Try.pinned (OpenSpec.ofChange Rows.diskFromSpec) :=
  OpenClaim.holds_of_wide 6 Try.f6 rfl rfl rfl rfl rfl rfl rfl ⟨rfl, rfl, rfl, rfl, rfl⟩ rfl rfl rfl rfl rfl (by kernel_rfl) Try.func6 (by kernel_rfl)
    (of_decide_eq_true (by kernel_rfl)) (by unfold Func.isWrapper; first | (rw [if_pos (by decide +kernel)]; kernel_rfl) | (rw [if_neg (by decide +kernel)]; exact ⟨rfl, rfl⟩))
    (fun os started H enc _ => lifted os started H enc)

theorem proved : Rows.DiskFromSaid := over
#print axioms proved
end Go.Proofs.Ytaohaofjbgghgaa.diskFrom
