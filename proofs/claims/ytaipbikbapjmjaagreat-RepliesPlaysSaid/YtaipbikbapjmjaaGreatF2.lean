/- Several texts of this claim in one. No condition beyond what each theorem states. -/
import Derived.Test.YtaipbikbapjmjaaGreatF1
import Derived.Test.YtaipbikbapjmjaaGreatB13
import Derived.Test.YtaipbikbapjmjaaGreatB18
/- The document's Empty replies by contract. No condition beyond what each theorem states. -/
namespace Go.Proofs.YtaipbikbapjmjaaGreat
open Go Go.RowKit Go.PlainAid

def d0 : Dc := ⟨0, 1, .slice none 0 0, []⟩
theorem d0_cl (n : Nat) : (List.replicate n d0).map toCl = List.replicate n {} := by
  rw [List.map_replicate]; rfl
theorem d0_snoc (k : Nat) : dcsC (List.replicate k d0) ++ [.int .i64 0, .int .i64 1, .slice none 0 0] = dcsC (List.replicate (k + 1) d0) := by
  rw [List.replicate_succ', dcsC_snoc]; rfl
def EmptyR (W : World) (e : Ending) (w' : World) : Prop := ∃ v, e = .returned (.agg #[v]) ∧ RefR w' v (List.replicate 8 d0) ∧ Kp No W w'
set_option maxRecDepth 100000 in
set_option maxHeartbeats 4000000 in
theorem dempty_any (W : World) : Calls Tryz.prog 15 #[] W (EmptyR W) := by
  have HB0 := Lib.hid (show Bk ((W.alloc (.cells #[.slice none 0 0] 42)).alloc (.cells #[.slice none 0 0] 42)) W.heap.size 42 [.slice none 0 0] from (Bk.new' rfl rfl).alloc _)
  have HB1 := Lib.hid (show Bk ((W.alloc (.cells #[.slice none 0 0] 42)).alloc (.cells #[.slice none 0 0] 42)) (W.heap.size + 1) 42 [.slice none 0 0] from Bk.new' (by simp) rfl)
  have HK := Lib.hid (show Kp No W ((W.alloc (.cells #[.slice none 0 0] 42)).alloc (.cells #[.slice none 0 0] 42)) from ((Kp.refl No W).alloc _).alloc _)
  go_enter Tryz.func15, Tryz.ntmps15
  go_wp2
  go_loopw [2] (fun i wr => ∃ k : Nat, k ≤ 8 ∧ i = .int .i64 k ∧ (∃ v, Bk wr (W.heap.size + 1) 42 [v] ∧ wr.ownsRow W.heap.size 75 3 v k (dcsC (List.replicate k d0))) ∧ Bk wr W.heap.size 42 [.slice none 0 0] ∧ Kp No W wr) (fun i _ => 8 - (intOf i).toNat)
  case atStart => exact ⟨0, Nat.zero_le _, rfl, ⟨_, HB1.out, nil_own _ _ _ _⟩, HB0.out, HK.out⟩
  case round =>
  obtain ⟨k, hk, rfl, ⟨v, hb1, ho⟩, hb0, hkp⟩ := hrel
  obtain ⟨A, c, rfl, hc⟩ := own_len ho
  have HO := Lib.hid ho; have HV := Lib.hid hb1; have HR := Lib.hid hb0; have HKP := Lib.hid hkp
  have z0 : wr.cell? ⟨W.heap.size + 1, 0, none⟩ = some (.slice A k c) := hb1.cell 0
  have hsz : W.heap.size + 1 < wr.heap.size := hb1.lt
  clear ho hb1 hb0 hkp HB0 HB1 HK
  by_cases hlt : k < 8
  · have hk1 : (k : Int) < 8 := by omega
    go_wp2_with (at_builtin; refine wpList_app1 _ rfl _ _ 40 rfl W.heap.size 75 _ 3 40 Tryz.underlying40 Tryz.infoCl rfl (by omega) _ k (dcsC (List.replicate k d0)) rfl (HO.out.alloc _) _ _ _ rfl (Bk.new' (by simp) rfl) rfl (by simp [Value.oneCell']) (by omega) (by omega) (by simp; omega) ?_; intro g1 cap1 w1 hown1 hk1' hat1; have HV1 := Lib.hid ((HV.out.alloc (.cells #[.int .i64 0, .int .i64 1, .slice none 0 0] 75)).kp hk1' (fun e => own_ne HO.out HV.out (by decide) e)); have HR1 := Lib.hid ((HR.out.alloc (.cells #[.int .i64 0, .int .i64 1, .slice none 0 0] 75)).kp hk1' (fun e => own_ne HO.out HR.out (by decide) e)); have HK1 := Lib.hid (kp_own (HO.out.alloc (.cells #[.int .i64 0, .int .i64 1, .slice none 0 0] 75)) (HKP.out.alloc _) hk1'); have HO1 := Lib.hid hown1; have y0 : w1.cell? ⟨W.heap.size + 1, 0, none⟩ = some (.slice A k c) := HV1.out.cell 0; have yf := HV1.out.frozen 0; clear hown1 hk1' hat1 z0)
    go_roundw
    case rel =>
      refine ⟨k + 1, by omega, by go_num, ⟨_, HV1.out.set_ 0 _, ?_⟩, HR1.out.far (p := ⟨W.heap.size + 1, 0, none⟩) (by show W.heap.size ≠ W.heap.size + 1; omega) _, HK1.out.set (.inr (by omega)) _ _⟩
      have h := HO1.out
      rw [d0_snoc] at h
      refine own_kp h ((Kp.refl (One (W.heap.size + 1)) w1).set (.inl rfl) 0 _) fun g e e2 => own_ne h HV1.out (by decide) (by rw [e, show g = W.heap.size + 1 from e2])
    case measure => simp [intOf]; omega
  · have hk1 : ¬ (k : Int) < 8 := by omega
    have hk8 : k = 8 := by omega
    have y0 : wr.cell? ⟨W.heap.size, 0, none⟩ = some (.slice none 0 0) := HR.out.cell 0
    have yf := HR.out.frozen 0
    have B9 := (HR.out.set_ 0 (.slice A k c)).cell 0
    have HF := Lib.hid (show EmptyR W (.returned (.agg #[.slice A k c])) (wr.setCell ⟨W.heap.size, 0, none⟩ (.slice A k c)) from by
      have h := HO.out
      subst hk8
      refine ⟨_, rfl, own_ref (B := W.heap.size) ?_ (fun x hx => ?_), HKP.out.set (.inr (Nat.le_refl _)) _ _⟩
      · rw [List.length_replicate]
        exact own_kp h ((Kp.refl (One W.heap.size) wr).set (.inl rfl) 0 _) fun g e e2 => own_ne h HR.out (by decide) (by rw [e, show g = W.heap.size from e2])
      · rw [(List.mem_replicate.1 hx).2]
        exact AnsR.nil _)
    have x0 : (wr.setCell ⟨W.heap.size, 0, none⟩ (.slice A k c)).cell? ⟨W.heap.size, 0, none⟩ = some (.slice A k c) := B9
    clear hk8 B9
    go_wp2
    refine bodyPost_ret (v := .agg #[.slice A k c]) (by simp [results, Tryz.results15, go_sem, x0]) rfl ?_
    exact HF.out
end Go.Proofs.YtaipbikbapjmjaaGreat

/- The document's put by contract. No condition beyond what each theorem states. -/
namespace Go.Proofs.YtaipbikbapjmjaaGreat
open Go Go.RowKit Go.PlainAid

theorem _root_.Go.World.ownsRow.no2 {w w' : World} {B n s : Nat} {t : TypeId} {v : Value} {xs : List Value} (h : w.ownsRow B t s v n xs) (hk : Kp No w w') : w'.ownsRow B t s v n xs := own_kp h hk fun _ _ m => m
theorem put_take (D : List Dc) (i : Nat) (x : Dc) (k : Nat) (hk : k < D.length) : dcsC ((D.set i x).take (k + 1)) = dcsC ((D.set i x).take k) ++ dcC (if k = i then x else D[k]) := by
  have hl : k < (D.set i x).length := by rw [List.length_set]; exact hk
  rw [List.take_succ_eq_append_getElem hl, dcsC_snoc, List.getElem_set]
  by_cases e : i = k
  · rw [if_pos e, if_pos e.symm]
  · rw [if_neg e, if_neg (fun h => e h.symm)]
def PutR (D : List Dc) (i : Nat) (x : Dc) (W : World) (e : Ending) (w' : World) : Prop := ∃ v, e = .returned (.agg #[v]) ∧ RefR w' v (D.set i x) ∧ Kp No W w'
set_option maxRecDepth 100000 in
set_option maxHeartbeats 8000000 in
theorem dput_any (v : Value) (D : List Dc) (i : Nat) (x : Dc) (W : World) (h : RefR W v D) (h8 : D.length = 8) (hx : DcOk W x) (_hi : i < 8) : Calls Tryz.prog 25 #[.agg #[v], .int .i64 (i : Int), .agg (dcC x).toArray] W (PutR D i x W) := by
  have HH := Lib.hid h
  obtain ⟨⟨A, c, rfl, hc, _⟩, _⟩ := h
  have HX := Lib.hid hx; have H8 := Lib.hid h8
  have HX1 := Lib.hid (show ∀ u ∈ ([.int .i64 x.boot, .int .i64 x.low, x.v] : List Value), u.oneCell' = true from by
    obtain ⟨⟨A9, c9, e9, _⟩, _⟩ := hx
    rw [e9]
    simp [Value.oneCell'])
  have H3 := Lib.hid (show Bk ((((W.alloc (.cells #[.slice A D.length c] 42)).alloc (.cells #[.int .i64 x.boot, .int .i64 x.low, x.v] 75)).alloc (.cells #[.slice none 0 0] 42)).alloc (.cells #[.slice none 0 0] 42)) W.heap.size 42 [.slice A D.length c] from (((Bk.new' rfl rfl).alloc _).alloc _).alloc _)
  have H5 := Lib.hid (show Bk ((((W.alloc (.cells #[.slice A D.length c] 42)).alloc (.cells #[.int .i64 x.boot, .int .i64 x.low, x.v] 75)).alloc (.cells #[.slice none 0 0] 42)).alloc (.cells #[.slice none 0 0] 42)) (W.heap.size + 1) 75 [.int .i64 x.boot, .int .i64 x.low, x.v] from ((Bk.new' (by simp) rfl).alloc _).alloc _)
  have HR := Lib.hid (show Bk ((((W.alloc (.cells #[.slice A D.length c] 42)).alloc (.cells #[.int .i64 x.boot, .int .i64 x.low, x.v] 75)).alloc (.cells #[.slice none 0 0] 42)).alloc (.cells #[.slice none 0 0] 42)) (W.heap.size + 1 + 1) 42 [.slice none 0 0] from (Bk.new' (by simp) rfl).alloc _)
  have HV := Lib.hid (show Bk ((((W.alloc (.cells #[.slice A D.length c] 42)).alloc (.cells #[.int .i64 x.boot, .int .i64 x.low, x.v] 75)).alloc (.cells #[.slice none 0 0] 42)).alloc (.cells #[.slice none 0 0] 42)) (W.heap.size + 1 + 1 + 1) 42 [.slice none 0 0] from Bk.new' (by simp) rfl)
  have HKP := Lib.hid (show Kp No W ((((W.alloc (.cells #[.slice A D.length c] 42)).alloc (.cells #[.int .i64 x.boot, .int .i64 x.low, x.v] 75)).alloc (.cells #[.slice none 0 0] 42)).alloc (.cells #[.slice none 0 0] 42)) from ((((Kp.refl No W).alloc _).alloc _).alloc _).alloc _)
  unfold dcC
  clear hx h8
  go_enter Tryz.func25, Tryz.ntmps25
  go_wp2
  go_loopw [8] (fun t wr => ∃ k : Nat, k ≤ D.length ∧ t = .int .i64 k ∧ (∃ v2, Bk wr (W.heap.size + 1 + 1 + 1) 42 [v2] ∧ wr.ownsRow W.heap.size 75 3 v2 k (dcsC ((D.set i x).take k)) ∧ ∀ q, v2.ownBlock = some q → q ≠ (W.heap.size + 1)) ∧ Bk wr W.heap.size 42 [.slice A D.length c] ∧ Bk wr (W.heap.size + 1) 75 [.int .i64 x.boot, .int .i64 x.low, x.v] ∧ Bk wr (W.heap.size + 1 + 1) 42 [.slice none 0 0] ∧ Kp No W wr) (fun t _ => D.length - (intOf t).toNat)
  case atStart => exact ⟨0, Nat.zero_le _, rfl, ⟨_, HV.out, nil_own _ _ _ _, fun q e => by simp [Value.ownBlock] at e⟩, H3.out, H5.out, HR.out, HKP.out⟩
  case round =>
  obtain ⟨k, hk, rfl, ⟨v2, hb7, ho, hn5⟩, hb3, hb5, hb6, hkp⟩ := hrel
  obtain ⟨A2, c2, rfl, hc2⟩ := own_len ho
  clear H3 H5 HR HV HKP
  have HO := Lib.hid ho; have HV := Lib.hid hb7; have H3 := Lib.hid hb3; have H5 := Lib.hid hb5; have HR := Lib.hid hb6; have HKP := Lib.hid hkp
  have HN5 := Lib.hid (show ∀ q, (Value.slice A2 k c2).ownBlock = some q → (W.heap.size + 1) ≠ q → True from fun _ _ _ => trivial)
  clear HN5
  have HN5 := Lib.hid (show ∀ q, (Value.slice A2 k c2).ownBlock = some q → q ≠ (W.heap.size + 1) from hn5)
  have z7 : wr.cell? ⟨(W.heap.size + 1 + 1 + 1), 0, none⟩ = some (.slice A2 k c2) := hb7.cell 0
  have z3 : wr.cell? ⟨W.heap.size, 0, none⟩ = some (.slice A D.length c) := hb3.cell 0
  have hsz : (W.heap.size + 1 + 1 + 1) < wr.heap.size := hb7.lt
  clear ho hb7 hb3 hb5 hb6 hkp hn5
  by_cases hlt : k < D.length
  · have hk8 : k < 8 := by have := H8.out; omega
    have hk1 : (k : Int) < (D.length : Int) := by omega
    have hk0 : (0 : Int) ≤ (k : Int) := by omega
    have HTK0 := Lib.hid (put_take D i x k hlt)
    by_cases he : k = i
    · have d0 : ((k : Int) == (i : Int)) = true := beq_iff_eq.2 (by omega)
      have HTK := Lib.hid (show dcsC ((D.set i x).take (k + 1)) = dcsC ((D.set i x).take k) ++ [.int .i64 x.boot, .int .i64 x.low, x.v] from by rw [HTK0.out, if_pos he]; rfl)
      have z50 : wr.cell? ⟨(W.heap.size + 1), 0, none⟩ = some (.int .i64 x.boot) := H5.out.cell 0
      have z51 : wr.cell? ⟨(W.heap.size + 1), 1, none⟩ = some (.int .i64 x.low) := H5.out.cell 1
      have z52 : wr.cell? ⟨(W.heap.size + 1), 2, none⟩ = some x.v := H5.out.cell 2
      clear he HTK0
      go_wp2_with (at_builtin; refine wpList_app1 _ rfl _ _ 40 rfl W.heap.size 75 _ 3 40 Tryz.underlying40 Tryz.infoCl rfl (by omega) _ k (dcsC ((D.set i x).take k)) rfl (HO.out.alloc _) _ _ _ rfl (Bk.new' (by simp) rfl) rfl HX1.out (by omega) (by omega) (by simp; omega) ?_; intro g1 cap1 w1 hown1 hk1' hat1; have HV1 := Lib.hid ((HV.out.alloc (.cells #[.int .i64 x.boot, .int .i64 x.low, x.v] 75)).kp hk1' (fun e => own_ne HO.out HV.out (by decide) e)); have HR1 := Lib.hid ((HR.out.alloc (.cells #[.int .i64 x.boot, .int .i64 x.low, x.v] 75)).kp hk1' (fun e => own_ne HO.out HR.out (by decide) e)); have H31 := Lib.hid ((H3.out.alloc (.cells #[.int .i64 x.boot, .int .i64 x.low, x.v] 75)).kp hk1' (fun e => own_ne HO.out H3.out (by decide) e)); have H51 := Lib.hid ((H5.out.alloc (.cells #[.int .i64 x.boot, .int .i64 x.low, x.v] 75)).kp hk1' (fun e => HN5.out _ e rfl)); have HK1 := Lib.hid (kp_own (HO.out.alloc (.cells #[.int .i64 x.boot, .int .i64 x.low, x.v] 75)) (HKP.out.alloc _) hk1'); have HO1 := Lib.hid hown1; have y0 : w1.cell? ⟨(W.heap.size + 1 + 1 + 1), 0, none⟩ = some (.slice A2 k c2) := HV1.out.cell 0; have yf := HV1.out.frozen 0; have hsz1 : (W.heap.size + 1 + 1 + 1) < w1.heap.size := HV1.out.lt; have HG1 := Lib.hid hat1; clear hown1 hk1' hat1; clear z7 z3 z50 z51 z52)
      go_roundw
      case rel =>
        refine ⟨k + 1, by omega, by go_num, ⟨_, HV1.out.set_ 0 _, ?_, ?_⟩, H31.out.far (p := ⟨(W.heap.size + 1 + 1 + 1), 0, none⟩) (by show W.heap.size ≠ (W.heap.size + 1 + 1 + 1); omega) _, H51.out.far (p := ⟨(W.heap.size + 1 + 1 + 1), 0, none⟩) (by show (W.heap.size + 1) ≠ (W.heap.size + 1 + 1 + 1); omega) _, HR1.out.far (p := ⟨(W.heap.size + 1 + 1 + 1), 0, none⟩) (by show (W.heap.size + 1 + 1) ≠ (W.heap.size + 1 + 1 + 1); omega) _, HK1.out.set (.inr (by omega)) _ _⟩
        · have h := HO1.out
          rw [HTK.out]
          exact own_kp h ((Kp.refl (One (W.heap.size + 1 + 1 + 1)) w1).set (.inl rfl) 0 _) fun g e e2 => own_ne h HV1.out (by decide) (by rw [e, show g = (W.heap.size + 1 + 1 + 1) from e2])
        · intro q e
          have e : g1 = q := by simpa [Value.ownBlock] using e
          subst e
          rcases HG1.out with h | h
          · exact HN5.out _ h
          · have := H5.out.lt
            simp at h; omega
      case measure => simp [intOf]; omega
    · have d0 : ((k : Int) == (i : Int)) = false := by rw [beq_eq_false_iff_ne]; omega
      obtain ⟨g, o, c3, e, _, hr, hy⟩ := HH.out.at_ hlt
      injection e with e1 _ e2
      subst e1; subst e2
      obtain ⟨y, hyy⟩ : ∃ y, y = D[k] := ⟨_, rfl⟩
      rw [← hyy] at hr hy
      have HTK := Lib.hid (show dcsC ((D.set i x).take (k + 1)) = dcsC ((D.set i x).take k) ++ [.int .i64 y.boot, .int .i64 y.low, y.v] from by rw [HTK0.out, if_neg he, ← hyy]; rfl)
      have HY1 := Lib.hid (show ∀ u ∈ ([.int .i64 y.boot, .int .i64 y.low, y.v] : List Value), u.oneCell' = true from by
        obtain ⟨⟨A9, c9, e9, _⟩, _⟩ := hy
        rw [e9]
        simp [Value.oneCell'])
      have hrr := range_kp hr HKP.out (fun m => m)
      have q0 : wr.cell? ⟨g, o + k * 3, none⟩ = some (.int .i64 y.boot) := hrr 0 _ rfl
      have q1 : wr.cell? ⟨g, o + k * 3 + 1, none⟩ = some (.int .i64 y.low) := hrr 1 _ rfl
      have q2 : wr.cell? ⟨g, o + k * 3 + 2, none⟩ = some y.v := hrr 2 _ rfl
      have hgW : g < W.heap.size := World.block_lt_of_cell? W _ (hr 0 _ rfl)
      have hF : (fun W2 => W2.cell? ⟨(W.heap.size + 1 + 1 + 1), 0, none⟩ = some (.slice A2 k c2) ∧ W2.cell? ⟨W.heap.size, 0, none⟩ = some (.slice (some ⟨g, o, none⟩) D.length c) ∧ W2.cell? ⟨g, o + k * 3, none⟩ = some (.int .i64 y.boot) ∧ W2.cell? ⟨g, o + k * 3 + 1, none⟩ = some (.int .i64 y.low) ∧ W2.cell? ⟨g, o + k * 3 + 2, none⟩ = some y.v) wr.drew := ⟨z7, z3, q0, q1, q2⟩
      have HFB := Lib.hid (show (fun W2 => W2.cell? ⟨(W.heap.size + 1 + 1 + 1), 0, none⟩ = some (.slice A2 k c2) ∧ W2.cell? ⟨W.heap.size, 0, none⟩ = some (.slice (some ⟨g, o, none⟩) D.length c) ∧ W2.cell? ⟨g, o + k * 3, none⟩ = some (.int .i64 y.boot) ∧ W2.cell? ⟨g, o + k * 3 + 1, none⟩ = some (.int .i64 y.low) ∧ W2.cell? ⟨g, o + k * 3 + 2, none⟩ = some y.v) (wr.drew.alloc (.cells #[.int .i64 y.boot, .int .i64 y.low, y.v] 75)) from ⟨((HV.out.no (Kp.refl No wr).drew).alloc _).cell 0, ((H3.out.no (Kp.refl No wr).drew).alloc _).cell 0, (range_kp hrr ((Kp.refl No wr).drew.alloc _) (fun m => m)) 0 _ rfl, (range_kp hrr ((Kp.refl No wr).drew.alloc _) (fun m => m)) 1 _ rfl, (range_kp hrr ((Kp.refl No wr).drew.alloc _) (fun m => m)) 2 _ rfl⟩)
      have HOB := Lib.hid (show ∀ q, (Value.slice A2 k c2).ownBlock = some q → W.heap.size ≤ q from fun q e => by
        rcases HO.out.2 with ⟨e2, _⟩ | ⟨g', cap, cur, e2, hg, _⟩
        · rw [e2] at e; simp [Value.ownBlock] at e
        · rw [e2] at e
          have : g' = q := by simpa [Value.ownBlock] using e
          subst this; exact hg)
      have HFC := Lib.hid (show ∀ w1, Kp (fun q => (Value.slice A2 k c2).ownBlock = some q) (wr.drew.alloc (.cells #[.int .i64 y.boot, .int .i64 y.low, y.v] 75)) w1 → w1.cell? ⟨g, o + k * 3, none⟩ = some (.int .i64 y.boot) ∧ w1.cell? ⟨g, o + k * 3 + 1, none⟩ = some (.int .i64 y.low) ∧ w1.cell? ⟨g, o + k * 3 + 2, none⟩ = some y.v from fun w1 h1 => by
        have h2 := range_kp (range_kp hrr ((Kp.refl No wr).drew.alloc (.cells #[.int .i64 y.boot, .int .i64 y.low, y.v] 75)) (fun m => m)) h1 (fun e => by have := HOB.out _ e; omega)
        exact ⟨h2 0 _ rfl, h2 1 _ rfl, h2 2 _ rfl⟩)
      have HGW := Lib.hid hgW
      clear he HTK0 hyy hr hy hrr hgW
      go_upto_region 7 with (fail)
      clear z7 z3 q0 q1 q2
      refine rg_begin (fun W2 => W2.cell? ⟨(W.heap.size + 1 + 1 + 1), 0, none⟩ = some (.slice A2 k c2) ∧ W2.cell? ⟨W.heap.size, 0, none⟩ = some (.slice (some ⟨g, o, none⟩) D.length c) ∧ W2.cell? ⟨g, o + k * 3, none⟩ = some (.int .i64 y.boot) ∧ W2.cell? ⟨g, o + k * 3 + 1, none⟩ = some (.int .i64 y.low) ∧ W2.cell? ⟨g, o + k * 3 + 2, none⟩ = some y.v) 10 (by kernel_rfl) ?_
      refine rg_take (i := 0) (v := ?vp0) (by simp only [List.getElem?_toArray, List.getElem?_cons_zero]; rfl) (by kernel_rfl) (by exact fun _ _ _ h => h) (by rfl) ?rp0 hF ?sp0
      case rp0 => (intro W hW; clear hW; go_simp; try with_reducible rfl)
      try simp only [Act.put, List.setIfInBounds_toArray, List.set_cons_zero, List.set_cons_succ]
      refine rg_take (i := 1) (v := ?vp1) (by simp only [List.getElem?_toArray, List.getElem?_cons_succ, List.getElem?_cons_zero]; rfl) (by kernel_rfl) (by exact fun _ _ _ h => h) (by rfl) ?rp1 hF ?sp1
      case rp1 => (intro W hW; obtain ⟨f1, f2, f3, f4, f5⟩ := hW; go_simp; try with_reducible rfl)
      try simp only [Act.put, List.setIfInBounds_toArray, List.set_cons_zero, List.set_cons_succ]
      refine rg_take (i := 2) (v := ?vp2) (by simp only [List.getElem?_toArray, List.getElem?_cons_succ, List.getElem?_cons_zero]; rfl) (by kernel_rfl) (by exact fun _ _ _ h => h) (by rfl) ?rp2 hF ?sp2
      case rp2 => (intro W hW; clear hW; go_simp; try with_reducible rfl)
      try simp only [Act.put, List.setIfInBounds_toArray, List.set_cons_zero, List.set_cons_succ]
      refine rg_take (i := 3) (v := ?vp3) (by simp only [List.getElem?_toArray, List.getElem?_cons_succ, List.getElem?_cons_zero]; rfl) (by kernel_rfl) (by exact fun _ _ _ h => h) (by rfl) ?rp3 hF ?sp3
      case rp3 => (intro W hW; obtain ⟨f1, f2, f3, f4, f5⟩ := hW; go_simp; try with_reducible rfl)
      try simp only [Act.put, List.setIfInBounds_toArray, List.set_cons_zero, List.set_cons_succ]
      refine rg_take (i := 4) (v := ?vp4) (by simp only [List.getElem?_toArray, List.getElem?_cons_succ, List.getElem?_cons_zero]; rfl) (by kernel_rfl) (by exact fun _ _ _ h => h) (by rfl) ?rp4 hF ?sp4
      case rp4 => (intro W hW; clear hW; go_simp; try with_reducible rfl)
      try simp only [Act.put, List.setIfInBounds_toArray, List.set_cons_zero, List.set_cons_succ]
      refine rg_take (i := 5) (v := ?vp5) (by simp only [List.getElem?_toArray, List.getElem?_cons_succ, List.getElem?_cons_zero]; rfl) (by kernel_rfl) (by exact fun _ _ _ h => h) (by rfl) ?rp5 hF ?sp5
      case rp5 => (intro W hW; clear hW; go_simp; try with_reducible rfl)
      try simp only [Act.put, List.setIfInBounds_toArray, List.set_cons_zero, List.set_cons_succ]
      refine rg_take (i := 6) (v := ?vp6) (by simp only [List.getElem?_toArray, List.getElem?_cons_succ, List.getElem?_cons_zero]; rfl) (by kernel_rfl) (by exact fun _ _ _ h => h) (by rfl) ?rp6 hF ?sp6
      case rp6 => (intro W hW; obtain ⟨f1, f2, f3, f4, f5⟩ := hW; go_simp; try with_reducible rfl)
      try simp only [Act.put, List.setIfInBounds_toArray, List.set_cons_zero, List.set_cons_succ]
      refine rg_one (i := 7) (oi := ?op7) ?ap7 ?bp7 ?cp7 ?dp7
      case ap7 => (simp only [List.getElem?_toArray, List.getElem?_cons_succ, List.getElem?_cons_zero]; rfl)
      case bp7 => kernel_rfl
      case cp7 => rfl
      intro K hK
      go_simp
      refine rg_use hK (⟨HFB.out.1, HFB.out.2.1, HFB.out.2.2⟩) (fun hF => ?_)
      clear hK K
      try simp only [Act.put, List.setIfInBounds_toArray, List.set_cons_zero, List.set_cons_succ]
      refine rg_one (i := 8) (oi := ?op8) ?ap8 ?bp8 ?cp8 ?dp8
      case ap8 => (simp only [List.getElem?_toArray, List.getElem?_cons_succ, List.getElem?_cons_zero]; rfl)
      case bp8 => kernel_rfl
      case cp8 => rfl
      intro K hK
      (refine wp_app1 _ _ _ 40 rfl W.heap.size 75 _ 3 40 Tryz.underlying40 Tryz.infoCl rfl (by omega) _ k (dcsC ((D.set i x).take k)) rfl ((HO.out.no2 (Kp.refl No wr).drew).alloc _) _ _ _ rfl (Bk.new' (by simp) rfl) rfl HY1.out (by omega) (by omega) (by simp; omega) ?_; intro g1 cap1 w1 hown1 hk1' hat1)
      refine rg_use hK (⟨((HV.out.no (Kp.refl No wr).drew).alloc _ |>.kp hk1' (fun e => own_ne HO.out HV.out (by decide) e)).cell 0, ((H3.out.no (Kp.refl No wr).drew).alloc _ |>.kp hk1' (fun e => own_ne HO.out H3.out (by decide) e)).cell 0, HFC.out _ hk1'⟩) (fun hF => ?_)
      clear hK K
      try simp only [Act.put, List.setIfInBounds_toArray, List.set_cons_zero, List.set_cons_succ]
      refine rg_take (i := 9) (v := ?vp9) (by simp only [List.getElem?_toArray, List.getElem?_cons_succ, List.getElem?_cons_zero]; rfl) (by kernel_rfl) (by exact fun _ _ _ h => h) (by rfl) ?rp9 hF ?sp9
      case rp9 => (intro W hW; clear hW; go_simp; try with_reducible rfl)
      try simp only [Act.put, List.setIfInBounds_toArray, List.set_cons_zero, List.set_cons_succ]
      refine rg_one (i := 10) (oi := ?op10) ?ap10 ?bp10 ?cp10 ?dp10
      case ap10 => (simp only [List.getElem?_toArray, List.getElem?_cons_succ, List.getElem?_cons_zero]; rfl)
      case bp10 => kernel_rfl
      case cp10 => rfl
      intro K hK
      (have y0 := hF.1; have yf := (((HV.out.no (Kp.refl No wr).drew).alloc (.cells #[.int .i64 y.boot, .int .i64 y.low, y.v] 75)).kp hk1' (fun e => own_ne HO.out HV.out (by decide) e)).frozen 0; go_simp)
      refine hK _ _ (fun h => absurd rfl h) ?_
      clear hK K
      try simp only [Act.put, List.setIfInBounds_toArray, List.set_cons_zero, List.set_cons_succ]
      refine rg_done (by kernel_rfl) ?_
      have HV1 := Lib.hid (((HV.out.no (Kp.refl No wr).drew).alloc (.cells #[.int .i64 y.boot, .int .i64 y.low, y.v] 75)).kp hk1' (fun e => own_ne HO.out HV.out (by decide) e))
      have HR1 := Lib.hid (((HR.out.no (Kp.refl No wr).drew).alloc (.cells #[.int .i64 y.boot, .int .i64 y.low, y.v] 75)).kp hk1' (fun e => own_ne HO.out HR.out (by decide) e))
      have H31 := Lib.hid (((H3.out.no (Kp.refl No wr).drew).alloc (.cells #[.int .i64 y.boot, .int .i64 y.low, y.v] 75)).kp hk1' (fun e => own_ne HO.out H3.out (by decide) e))
      have H51 := Lib.hid (((H5.out.no (Kp.refl No wr).drew).alloc (.cells #[.int .i64 y.boot, .int .i64 y.low, y.v] 75)).kp hk1' (fun e => HN5.out _ e rfl))
      have HK1 := Lib.hid (kp_own ((HO.out.no2 (Kp.refl No wr).drew).alloc (.cells #[.int .i64 y.boot, .int .i64 y.low, y.v] 75)) (HKP.out.drew.alloc _) hk1')
      have HO1 := Lib.hid hown1
      have hsz1 : (W.heap.size + 1 + 1 + 1) < w1.heap.size := HV1.out.lt
      have HG1 := Lib.hid hat1
      clear hown1 hk1' hat1
      go_wp2
      go_roundw
      case rel =>
        refine ⟨k + 1, by omega, by go_num, ⟨_, HV1.out.set_ 0 _, ?_, ?_⟩, H31.out.far (p := ⟨(W.heap.size + 1 + 1 + 1), 0, none⟩) (by show W.heap.size ≠ (W.heap.size + 1 + 1 + 1); omega) _, H51.out.far (p := ⟨(W.heap.size + 1 + 1 + 1), 0, none⟩) (by show (W.heap.size + 1) ≠ (W.heap.size + 1 + 1 + 1); omega) _, HR1.out.far (p := ⟨(W.heap.size + 1 + 1 + 1), 0, none⟩) (by show (W.heap.size + 1 + 1) ≠ (W.heap.size + 1 + 1 + 1); omega) _, HK1.out.set (.inr (by omega)) _ _⟩
        · have h := HO1.out
          rw [HTK.out]
          exact own_kp h ((Kp.refl (One (W.heap.size + 1 + 1 + 1)) w1).set (.inl rfl) 0 _) fun g e e2 => own_ne h HV1.out (by decide) (by rw [e, show g = (W.heap.size + 1 + 1 + 1) from e2])
        · intro q e
          have e : g1 = q := by simpa [Value.ownBlock] using e
          subst e
          rcases HG1.out with h | h
          · exact HN5.out _ h
          · have := H5.out.lt
            simp at h; omega
      case measure => simp [intOf]; omega
  · have hk1 : ¬ (k : Int) < (D.length : Int) := by omega
    have hkD : k = D.length := by omega
    have HF := Lib.hid (show PutR D i x W (.returned (.agg #[.slice A2 k c2])) (wr.setCell ⟨(W.heap.size + 1 + 1), 0, none⟩ (.slice A2 k c2)) from by
      have h := HO.out
      have h9 : (D.set i x).take k = D.set i x := List.take_of_length_le (by rw [List.length_set]; omega)
      rw [h9] at h
      have h10 : k = (D.set i x).length := by rw [List.length_set]; omega
      have kx : Kp (One (W.heap.size + 1 + 1)) wr (wr.setCell ⟨(W.heap.size + 1 + 1), 0, none⟩ (.slice A2 k c2)) := (Kp.refl (One (W.heap.size + 1 + 1)) wr).set (.inl rfl) 0 _
      have k9 : Kp No W (wr.setCell ⟨(W.heap.size + 1 + 1), 0, none⟩ (.slice A2 k c2)) := HKP.out.set (.inr (by omega)) _ _
      refine ⟨_, rfl, ?_, k9⟩
      rw [h10] at h kx k9 ⊢
      refine own_ref (own_kp h kx fun g e e2 => own_ne h HR.out (by decide) (by rw [e, show g = (W.heap.size + 1 + 1) from e2])) (fun z hz => ?_)
      rcases List.mem_or_eq_of_mem_set hz with h3 | rfl
      · exact (HH.out.2 z h3).no k9
      · exact HX.out.no k9)
    have y0 : wr.cell? ⟨(W.heap.size + 1 + 1), 0, none⟩ = some (.slice none 0 0) := HR.out.cell 0
    have yf := HR.out.frozen 0
    have x0 : (wr.setCell ⟨(W.heap.size + 1 + 1), 0, none⟩ (.slice A2 k c2)).cell? ⟨(W.heap.size + 1 + 1), 0, none⟩ = some (.slice A2 k c2) := (HR.out.set_ 0 (.slice A2 k c2)).cell 0
    clear hkD
    go_wp2
    refine bodyPost_ret (v := .agg #[.slice A2 k c2]) (by simp [results, Tryz.results25, go_sem, x0]) rfl ?_
    exact HF.out
end Go.Proofs.YtaipbikbapjmjaaGreat

/- The document's heard by contract. No condition beyond what each theorem states. -/
namespace Go.Proofs.YtaipbikbapjmjaaGreat
open Go Go.RowKit Go.PlainAid

def HeardR (x : Dc) (m : Msg) (W : World) (e : Ending) (w' : World) : Prop :=
  Kp No W w' ∧ ((heardS (toCl x) m = none ∧ e = .returned (.tuple #[.agg (dcC x).toArray, .bool false])) ∨
    ∃ y : Dc, heardS (toCl x) m = some (toCl y) ∧ e = .returned (.tuple #[.agg (dcC y).toArray, .bool true]) ∧ DcOk w' y ∧ y.L.length ≤ x.L.length ∧ ∀ a n c, y.v = .slice (some a) n c → W.heap.size ≤ a.block)
set_option maxRecDepth 100000 in
set_option maxHeartbeats 8000000 in
theorem dheard_same (b1 l1 : Int) (A : Option Addr) (c : Nat) (L : List (Msg × Value)) (m : Msg) (sv : Value) (W : World) (h : AnsR W (.slice A L.length c) L) (hl : L.length ≤ 8) (hb : m.boot = b1) :
    Calls Tryz.prog 26 #[.agg (dcC ⟨b1, l1, .slice A L.length c, L⟩).toArray, .agg (mcells m sv).toArray] W (HeardR ⟨b1, l1, .slice A L.length c, L⟩ m W) := by
  have HA := Lib.hid h
  obtain ⟨lo, hlo⟩ : ∃ lo, lo = max l1 m.low := ⟨_, rfl⟩
  have HLO := Lib.hid hlo
  have h3 : max l1 m.low = lo := hlo.symm
  have W4 : ∃ w4, w4 = ((((W.alloc (.cells #[.int .i64 b1, .int .i64 l1, .slice A L.length c] 75)).alloc (.cells (mcells m sv).toArray 32)).alloc (.cells #[.int .i64 0, .int .i64 0, .slice none 0 0] 75)).alloc (.cells #[.int .i64 b1, .int .i64 lo, .slice none 0 0] 75)) := ⟨_, rfl⟩
  have H0 := Lib.hid (show Bk ((((W.alloc (.cells #[.int .i64 b1, .int .i64 l1, .slice A L.length c] 75)).alloc (.cells (mcells m sv).toArray 32)).alloc (.cells #[.int .i64 0, .int .i64 0, .slice none 0 0] 75)).alloc (.cells #[.int .i64 b1, .int .i64 lo, .slice none 0 0] 75)) W.heap.size 75 [.int .i64 b1, .int .i64 l1, .slice A L.length c] from (((Bk.new' rfl rfl).alloc _).alloc _).alloc _)
  have H2 := Lib.hid (show Bk ((((W.alloc (.cells #[.int .i64 b1, .int .i64 l1, .slice A L.length c] 75)).alloc (.cells (mcells m sv).toArray 32)).alloc (.cells #[.int .i64 0, .int .i64 0, .slice none 0 0] 75)).alloc (.cells #[.int .i64 b1, .int .i64 lo, .slice none 0 0] 75)) (W.heap.size + 1 + 1) 75 [.int .i64 0, .int .i64 0, .slice none 0 0] from (Bk.new' (by simp) rfl).alloc _)
  have H3 := Lib.hid (show Bk ((((W.alloc (.cells #[.int .i64 b1, .int .i64 l1, .slice A L.length c] 75)).alloc (.cells (mcells m sv).toArray 32)).alloc (.cells #[.int .i64 0, .int .i64 0, .slice none 0 0] 75)).alloc (.cells #[.int .i64 b1, .int .i64 lo, .slice none 0 0] 75)) (W.heap.size + 1 + 1 + 1) 75 [.int .i64 b1, .int .i64 lo, .slice none 0 0] from Bk.new' (by simp) rfl)
  have HK := Lib.hid (show Kp No W ((((W.alloc (.cells #[.int .i64 b1, .int .i64 l1, .slice A L.length c] 75)).alloc (.cells (mcells m sv).toArray 32)).alloc (.cells #[.int .i64 0, .int .i64 0, .slice none 0 0] 75)).alloc (.cells #[.int .i64 b1, .int .i64 lo, .slice none 0 0] 75)) from ((((Kp.refl No W).alloc _).alloc _).alloc _).alloc _)
  have n1 : ¬ m.boot < b1 := by omega
  have n2 : ¬ b1 < m.boot := by omega
  have HB := Lib.hid hb
  clear hlo W4 h hb
  unfold dcC mcells at *
  go_enter Tryz.func26, Tryz.ntmps26
  go_wp2
  go_loopw [7] (fun t wr => ∃ (k : Nat) (L2 : List (Msg × Value)) (v2 : Value), k ≤ L.length ∧ t = .int .i64 k ∧ Bk wr (W.heap.size + 1 + 1 + 1) 75 [.int .i64 b1, .int .i64 lo, v2] ∧ wr.ownsRow W.heap.size 32 16 v2 L2.length (ansC L2) ∧ L2 = (L.take k).filter (fun y => decide (lo ≤ y.1.seq)) ∧ Bk wr W.heap.size 75 [.int .i64 b1, .int .i64 l1, .slice A L.length c] ∧ Bk wr (W.heap.size + 1 + 1) 75 [.int .i64 0, .int .i64 0, .slice none 0 0] ∧ Kp No W wr) (fun t _ => L.length - (intOf t).toNat)
  case atStart => exact ⟨0, [], _, Nat.zero_le _, rfl, H3.out, nil_own _ _ _ _, rfl, H0.out, H2.out, HK.out⟩
  case round =>
  obtain ⟨k, L2, v2, hk, rfl, h3, ho, hL2, h0, h2, hkp⟩ := hrel
  obtain ⟨A2, c2, rfl, hc2⟩ := own_len ho
  clear H3 H0 H2 HK
  have H3 := Lib.hid h3; have H0 := Lib.hid h0; have H2 := Lib.hid h2; have HO := Lib.hid ho; have HK := Lib.hid hkp; have HL2 := Lib.hid hL2
  have z0 : wr.cell? ⟨W.heap.size, 2, none⟩ = some (.slice A L.length c) := h0.cell 2
  have y1 : wr.cell? ⟨(W.heap.size + 1 + 1 + 1), 1, none⟩ = some (.int .i64 lo) := h3.cell 1
  have hsz : (W.heap.size + 1 + 1 + 1) < wr.heap.size := h3.lt
  have hl2 : L2.length ≤ 8 := by rw [hL2]; have := List.length_filter_le (fun y : Msg × Value => decide (lo ≤ y.1.seq)) (L.take k); rw [List.length_take] at this; omega
  clear h3 h0 h2 ho hkp hL2
  by_cases hlt : k < L.length
  · obtain ⟨g, o, c3, e, _, hr, hs⟩ := HA.out.at_ hlt
    injection e with e1 _ e2
    subst e1; subst e2
    obtain ⟨y, hy⟩ : ∃ y, y = L[k] := ⟨_, rfl⟩
    rw [← hy] at hr hs
    have hk1 : (k : Int) < (L.length : Int) := by omega
    have hk0 : (0 : Int) ≤ (k : Int) := by omega
    have hrr := range_kp hr HK.out (fun m => m)
    have q4 : wr.cell? ⟨g, o + k * 16 + 4, none⟩ = some (.int .i64 y.1.seq) := hrr 4 _ rfl
    have hgW : g < W.heap.size := World.block_lt_of_cell? W _ (hr 0 _ rfl)
    have HTK := Lib.hid (show (L.take (k + 1)).filter (fun y => decide (lo ≤ y.1.seq)) = L2 ++ (if lo ≤ y.1.seq then [y] else []) from by
      rw [List.take_succ_eq_append_getElem hlt, List.filter_append, ← HL2.out, ← hy]
      congr 1
      by_cases h : lo ≤ y.1.seq <;> simp [h])
    by_cases he : lo ≤ y.1.seq
    · have d0 : decide (lo ≤ y.1.seq) = true := decide_eq_true he
      have HTK2 := Lib.hid (show (L.take (k + 1)).filter (fun y => decide (lo ≤ y.1.seq)) = L2 ++ [y] from by rw [HTK.out, if_pos he])
      obtain ⟨ym, ysv⟩ := y
      simp only at hr hs q4 d0 HTK2 hrr he
      obtain ⟨Ay, cy, rfl, _⟩ : ∃ A c, ysv = .slice A ym.stamp.length c ∧ True := by obtain ⟨A, c, e, _⟩ := hs; exact ⟨A, c, e, trivial⟩
      obtain ⟨C, hC⟩ : ∃ C, C = mcells ym (.slice Ay ym.stamp.length cy) := ⟨_, rfl⟩
      have HSY := Lib.hid hs
      rw [← hC] at hrr
      have HCL := Lib.hid (show C.length = 16 from by rw [hC]; rfl)
      have HC1 := Lib.hid (show ∀ u ∈ C, u.oneCell' = true from by rw [hC]; simp [mcells, Value.oneCell'])
      have HCI : Hid ((Tryz.prog.info? 32).map (·.size) = some C.length) := Lib.hid (by rw [HCL.out]; kernel_rfl)
      have HCE := Lib.hid hC
      have z3 : wr.cell? ⟨(W.heap.size + 1 + 1 + 1), 2, none⟩ = some (.slice A2 L2.length c2) := H3.out.cell 2
      have HOB := Lib.hid (show ∀ q, (Value.slice A2 L2.length c2).ownBlock = some q → W.heap.size ≤ q from fun q e => by
        rcases HO.out.2 with ⟨e2, _⟩ | ⟨g', cap, cur, e2, hg, _⟩
        · rw [e2] at e; simp [Value.ownBlock] at e
        · rw [e2] at e
          have : g' = q := by simpa [Value.ownBlock] using e
          subst this; exact hg)
      obtain ⟨n2, hn2⟩ : ∃ n2, n2 = L2.length := ⟨_, rfl⟩
      rw [← hn2] at H3 HO HOB z3 hl2
      have HN2 := Lib.hid hn2
      have hF : (fun W2 => W2.cell? ⟨(W.heap.size + 1 + 1 + 1), 2, none⟩ = some (.slice A2 n2 c2) ∧ W2.cell? ⟨W.heap.size, 2, none⟩ = some (.slice (some ⟨g, o, none⟩) L.length c) ∧ W2.rangeAt g (o + k * 16) C) wr.drew.drew := ⟨z3, z0, hrr⟩
      have HFB := Lib.hid (show (fun W2 => W2.cell? ⟨(W.heap.size + 1 + 1 + 1), 2, none⟩ = some (.slice A2 n2 c2) ∧ W2.cell? ⟨W.heap.size, 2, none⟩ = some (.slice (some ⟨g, o, none⟩) L.length c) ∧ W2.rangeAt g (o + k * 16) C) (wr.drew.drew.alloc (.cells C.toArray 32)) from ⟨((H3.out.no (Kp.refl No wr).drew.drew).alloc _).cell 2, ((H0.out.no (Kp.refl No wr).drew.drew).alloc _).cell 2, range_kp hrr ((Kp.refl No wr).drew.drew.alloc _) (fun m => m)⟩)
      have HFC := Lib.hid (show ∀ w1, Kp (fun q => (Value.slice A2 n2 c2).ownBlock = some q) (wr.drew.drew.alloc (.cells C.toArray 32)) w1 → w1.rangeAt g (o + k * 16) C from fun w1 h1 => range_kp (range_kp hrr ((Kp.refl No wr).drew.drew.alloc (.cells C.toArray 32)) (fun m => m)) h1 (fun e => by have := HOB.out _ e; omega))
      clear he HTK hr hs hC hn2 z3 hrr
      go_wp2
      go_region
      go_wp2
      clear z0 y1 q4
      refine rg_begin (fun W2 => W2.cell? ⟨(W.heap.size + 1 + 1 + 1), 2, none⟩ = some (.slice A2 n2 c2) ∧ W2.cell? ⟨W.heap.size, 2, none⟩ = some (.slice (some ⟨g, o, none⟩) L.length c) ∧ W2.rangeAt g (o + k * 16) C) 10 (by kernel_rfl) ?_
      refine rg_take (i := 0) (v := ?vp0) (by simp only [List.getElem?_toArray, List.getElem?_cons_zero]; rfl) (by kernel_rfl) (by exact fun _ _ _ h => h) (by rfl) ?rp0 hF ?sp0
      case rp0 => (intro W hW; clear hW; go_simp; try with_reducible rfl)
      try simp only [Act.put, List.setIfInBounds_toArray, List.set_cons_zero, List.set_cons_succ]
      refine rg_take (i := 1) (v := ?vp1) (by simp only [List.getElem?_toArray, List.getElem?_cons_succ, List.getElem?_cons_zero]; rfl) (by kernel_rfl) (by exact fun _ _ _ h => h) (by rfl) ?rp1 hF ?sp1
      case rp1 => (intro W hW; obtain ⟨f1, f2, f3⟩ := hW; go_simp; try with_reducible rfl)
      try simp only [Act.put, List.setIfInBounds_toArray, List.set_cons_zero, List.set_cons_succ]
      refine rg_take (i := 2) (v := ?vp2) (by simp only [List.getElem?_toArray, List.getElem?_cons_succ, List.getElem?_cons_zero]; rfl) (by kernel_rfl) (by exact fun _ _ _ h => h) (by rfl) ?rp2 hF ?sp2
      case rp2 => (intro W hW; clear hW; go_simp; try with_reducible rfl)
      try simp only [Act.put, List.setIfInBounds_toArray, List.set_cons_zero, List.set_cons_succ]
      refine rg_take (i := 3) (v := ?vp3) (by simp only [List.getElem?_toArray, List.getElem?_cons_succ, List.getElem?_cons_zero]; rfl) (by kernel_rfl) (by exact fun _ _ _ h => h) (by rfl) ?rp3 hF ?sp3
      case rp3 => (intro W hW; obtain ⟨f1, f2, f3⟩ := hW; go_simp; try with_reducible rfl)
      try simp only [Act.put, List.setIfInBounds_toArray, List.set_cons_zero, List.set_cons_succ]
      refine rg_take (i := 4) (v := ?vp4) (by simp only [List.getElem?_toArray, List.getElem?_cons_succ, List.getElem?_cons_zero]; rfl) (by kernel_rfl) (by exact fun _ _ _ h => h) (by rfl) ?rp4 hF ?sp4
      case rp4 => (intro W hW; clear hW; go_simp; try with_reducible rfl)
      try simp only [Act.put, List.setIfInBounds_toArray, List.set_cons_zero, List.set_cons_succ]
      refine rg_take (i := 5) (v := ?vp5) (by simp only [List.getElem?_toArray, List.getElem?_cons_succ, List.getElem?_cons_zero]; rfl) (by kernel_rfl) (by exact fun _ _ _ h => h) (by rfl) ?rp5 hF ?sp5
      case rp5 => (intro W hW; clear hW; go_simp; try with_reducible rfl)
      try simp only [Act.put, List.setIfInBounds_toArray, List.set_cons_zero, List.set_cons_succ]
      refine rg_take (i := 6) (v := ?vp6) (by simp only [List.getElem?_toArray, List.getElem?_cons_succ, List.getElem?_cons_zero]; rfl) (by kernel_rfl) (by exact fun _ _ _ h => h) (by rfl) ?rp6 hF ?sp6
      case rp6 => (intro W9 hW; refine exec_load_mid W9 32 (.tmp 51) ?_ g (o + k * 16) ?_ C _ hW.2.2 Tryz.underlying32 ?_ HCI.out; exact rfl; exact rfl; exact rfl)
      try simp only [Act.put, List.setIfInBounds_toArray, List.set_cons_zero, List.set_cons_succ]
      refine rg_one (i := 7) (oi := ?op7) ?ap7 ?bp7 ?cp7 ?dp7
      case ap7 => (simp only [List.getElem?_toArray, List.getElem?_cons_succ, List.getElem?_cons_zero]; rfl)
      case bp7 => kernel_rfl
      case cp7 => rfl
      intro K hK
      (refine wp_build1 73 _ rfl 32 _ 16 152 Tryz.underlying73 Tryz.infoMs (by omega) (by omega) (.agg C.toArray) rfl C rfl HCL.out ?_)
      refine rg_use hK (HFB.out) (fun hF => ?_)
      clear hK K
      try simp only [Act.put, List.setIfInBounds_toArray, List.set_cons_zero, List.set_cons_succ]
      refine rg_one (i := 8) (oi := ?op8) ?ap8 ?bp8 ?cp8 ?dp8
      case ap8 => (simp only [List.getElem?_toArray, List.getElem?_cons_succ, List.getElem?_cons_zero]; rfl)
      case bp8 => kernel_rfl
      case cp8 => rfl
      intro K hK
      (refine wp_app1 _ _ _ 73 rfl W.heap.size 32 _ 16 152 Tryz.underlying73 Tryz.infoMs rfl (by omega) _ n2 (ansC L2) rfl ((HO.out.no2 (Kp.refl No wr).drew.drew).alloc _) _ _ _ rfl (Bk.new' (by simp) rfl) HCL.out HC1.out (by omega) (by omega) (by simp; omega) ?_; intro g1 cap1 w1 hown1 hk1' hat1)
      refine rg_use hK (⟨(((H3.out.no (Kp.refl No wr).drew.drew).alloc _).kp hk1' (fun e => own_ne HO.out H3.out (by decide) e)).cell 2, (((H0.out.no (Kp.refl No wr).drew.drew).alloc _).kp hk1' (fun e => own_ne HO.out H0.out (by decide) e)).cell 2, HFC.out _ hk1'⟩) (fun hF => ?_)
      clear hK K
      try simp only [Act.put, List.setIfInBounds_toArray, List.set_cons_zero, List.set_cons_succ]
      refine rg_take (i := 9) (v := ?vp9) (by simp only [List.getElem?_toArray, List.getElem?_cons_succ, List.getElem?_cons_zero]; rfl) (by kernel_rfl) (by exact fun _ _ _ h => h) (by rfl) ?rp9 hF ?sp9
      case rp9 => (intro W hW; clear hW; go_simp; try with_reducible rfl)
      try simp only [Act.put, List.setIfInBounds_toArray, List.set_cons_zero, List.set_cons_succ]
      refine rg_one (i := 10) (oi := ?op10) ?ap10 ?bp10 ?cp10 ?dp10
      case ap10 => (simp only [List.getElem?_toArray, List.getElem?_cons_succ, List.getElem?_cons_zero]; rfl)
      case bp10 => kernel_rfl
      case cp10 => rfl
      intro K hK
      (have y0 := hF.1; have yf := (((H3.out.no (Kp.refl No wr).drew.drew).alloc (.cells C.toArray 32)).kp hk1' (fun e => own_ne HO.out H3.out (by decide) e)).frozen 2; go_simp)
      refine hK _ _ (fun h => absurd rfl h) ?_
      clear hK K
      try simp only [Act.put, List.setIfInBounds_toArray, List.set_cons_zero, List.set_cons_succ]
      refine rg_done (by kernel_rfl) ?_
      have H31 := Lib.hid (((H3.out.no (Kp.refl No wr).drew.drew).alloc (.cells C.toArray 32)).kp hk1' (fun e => own_ne HO.out H3.out (by decide) e))
      have H01 := Lib.hid (((H0.out.no (Kp.refl No wr).drew.drew).alloc (.cells C.toArray 32)).kp hk1' (fun e => own_ne HO.out H0.out (by decide) e))
      have H21 := Lib.hid (((H2.out.no (Kp.refl No wr).drew.drew).alloc (.cells C.toArray 32)).kp hk1' (fun e => own_ne HO.out H2.out (by decide) e))
      have HK1 := Lib.hid (kp_own ((HO.out.no2 (Kp.refl No wr).drew.drew).alloc (.cells C.toArray 32)) (HK.out.drew.drew.alloc _) hk1')
      have HO1 := Lib.hid hown1
      have hsz1 : (W.heap.size + 1 + 1 + 1) < w1.heap.size := H31.out.lt
      clear hown1 hk1' hat1
      go_wp2
      go_roundw
      case rel =>
        refine ⟨k + 1, L2 ++ [(ym, .slice Ay ym.stamp.length cy)], _, by omega, by go_num, H31.out.set_ 2 _, ?_, HTK2.out.symm, H01.out.far (p := ⟨(W.heap.size + 1 + 1 + 1), 2, none⟩) (by show W.heap.size ≠ (W.heap.size + 1 + 1 + 1); omega) _, H21.out.far (p := ⟨(W.heap.size + 1 + 1 + 1), 2, none⟩) (by show (W.heap.size + 1 + 1) ≠ (W.heap.size + 1 + 1 + 1); omega) _, HK1.out.set (.inr (by omega)) _ _⟩
        have h := HO1.out
        rw [HCE.out, ← ansC_snoc L2 (ym, .slice Ay ym.stamp.length cy)] at h
        rw [show (L2 ++ [(ym, Value.slice Ay ym.stamp.length cy)]).length = n2 + 1 from by rw [List.length_append, ← HN2.out]; rfl]
        exact own_kp h ((Kp.refl (One (W.heap.size + 1 + 1 + 1)) w1).set (.inl rfl) 2 _) fun g e e2 => own_ne h H31.out (by decide) (by rw [e, show g = (W.heap.size + 1 + 1 + 1) from e2])
      case measure => simp [intOf]; omega
    · have d0 : decide (lo ≤ y.1.seq) = false := decide_eq_false he
      have HTK2 := Lib.hid (show (L.take (k + 1)).filter (fun y => decide (lo ≤ y.1.seq)) = L2 from by rw [HTK.out, if_neg he, List.append_nil])
      clear he HTK hrr hr hy
      go_wp2
      go_region
      go_wp2
      go_roundw
      case rel => exact ⟨k + 1, L2, _, by omega, by go_num, H3.out.drew, HO.out.no2 (Kp.refl No wr).drew, HTK2.out.symm, H0.out.drew, H2.out.drew, HK.out.drew⟩
      case measure => simp [intOf]; omega
  · have hk1 : ¬ (k : Int) < (L.length : Int) := by omega
    have hkL : k = L.length := by omega
    obtain ⟨y, hy⟩ : ∃ y : Dc, y = ⟨b1, lo, .slice A2 L2.length c2, L2⟩ := ⟨_, rfl⟩
    obtain ⟨w9, hw9⟩ : ∃ w9, w9 = ((wr.setCell ⟨(W.heap.size + 1 + 1), 0, none⟩ (.int .i64 b1)).setCell ⟨(W.heap.size + 1 + 1), 1, none⟩ (.int .i64 lo)).setCell ⟨(W.heap.size + 1 + 1), 2, none⟩ (.slice A2 L2.length c2) := ⟨_, rfl⟩
    have B9 : Bk w9 (W.heap.size + 1 + 1) 75 [.int .i64 b1, .int .i64 lo, .slice A2 L2.length c2] := by rw [hw9]; exact ((H2.out.set_ 0 _).set_ 1 _).set_ 2 _
    have K9 : Kp (One (W.heap.size + 1 + 1)) wr w9 := by rw [hw9]; exact (((Kp.refl (One (W.heap.size + 1 + 1)) wr).set (.inl rfl) 0 _).set (.inl rfl) 1 _).set (.inl rfl) 2 _
    have HF := Lib.hid (show HeardR ⟨b1, l1, .slice A L.length c, L⟩ m W (.returned (.tuple #[.agg #[.int .i64 b1, .int .i64 lo, .slice A2 L2.length c2], .bool true])) w9 from by
      have hLt : L2 = L.filter (fun y => decide (lo ≤ y.1.seq)) := by rw [HL2.out, hkL, List.take_length]
      refine ⟨HK.out.then_ K9 fun j hj e => by have e : j = (W.heap.size + 1 + 1) := e; omega, .inr ⟨y, ?_, by rw [hy]; rfl, ?_, ?_, ?_⟩⟩
      · rw [hy, hLt]
        unfold heardS toCl
        simp only
        rw [if_neg (by rw [HB.out]; omega), if_neg (by rw [HB.out]; omega), ← HLO.out, List.filter_map]
        rfl
      · rw [hy]
        have hs9 : ∀ x ∈ L2, SlI w9 x.2 x.1.stamp := fun x hx => by
          have h1 : x ∈ L := by rw [hLt] at hx; exact (List.mem_filter.1 hx).1
          exact (((HA.out.no HK.out).2 x h1)).kp K9 fun g cs hb e => by
            have e : g = (W.heap.size + 1 + 1) := e
            subst e
            exact hb.ne_ H2.out (by decide) rfl
        exact own_ans (own_kp HO.out K9 fun g e e2 => own_ne HO.out H2.out (by decide) (by rw [e, show g = (W.heap.size + 1 + 1) from e2])) hs9
      · rw [hy]
        show L2.length ≤ L.length
        rw [hLt]; exact List.length_filter_le _ _
      · rw [hy]
        intro a n' c' e
        have e : Value.slice A2 L2.length c2 = .slice (some a) n' c' := e
        rcases HO.out.2 with ⟨e2, _⟩ | ⟨g', cap, cur, e2, hg, _⟩
        · rw [e2] at e; cases e
        · rw [e2] at e
          injection e with e3
          injection e3 with e4
          rw [← e4]; exact hg)
    have z2 : wr.cell? ⟨(W.heap.size + 1 + 1 + 1), 2, none⟩ = some (.slice A2 L2.length c2) := H3.out.cell 2
    have z30 : wr.cell? ⟨(W.heap.size + 1 + 1 + 1), 0, none⟩ = some (.int .i64 b1) := H3.out.cell 0
    have r0 : wr.cell? ⟨(W.heap.size + 1 + 1), 0, none⟩ = some (.int .i64 0) := H2.out.cell 0
    have r1 : wr.cell? ⟨(W.heap.size + 1 + 1), 1, none⟩ = some (.int .i64 0) := H2.out.cell 1
    have r2 : wr.cell? ⟨(W.heap.size + 1 + 1), 2, none⟩ = some (.slice none 0 0) := H2.out.cell 2
    have rf := H2.out.frozen
    have x0 := B9.cell 0
    have x1 := B9.cell 1
    have x2 := B9.cell 2
    simp only [List.getElem?_cons_zero, List.getElem?_cons_succ] at x0 x1 x2
    clear B9 K9 hkL hy
    rw [hw9] at x0 x1 x2
    have HW9 := Lib.hid hw9
    clear hw9
    go_wp2
    refine bodyPost_ret (v := .tuple #[.agg #[.int .i64 b1, .int .i64 lo, .slice A2 L2.length c2], .bool true]) (by simp [results, Tryz.results26, go_sem, x0, x1, x2]) rfl ?_
    have hf := HF.out
    rw [HW9.out] at hf
    exact hf
end Go.Proofs.YtaipbikbapjmjaaGreat

/- The document's heard by contract, all ways. No condition beyond what each theorem states. -/
namespace Go.Proofs.YtaipbikbapjmjaaGreat
open Go Go.RowKit Go.PlainAid

set_option maxRecDepth 100000 in
set_option maxHeartbeats 4000000 in
theorem dheard_old (b1 l1 : Int) (A : Option Addr) (n c : Nat) (L : List (Msg × Value)) (m : Msg) (sv : Value) (W : World) (hb : m.boot < b1) :
    Calls Tryz.prog 26 #[.agg (dcC ⟨b1, l1, .slice A n c, L⟩).toArray, .agg (mcells m sv).toArray] W (HeardR ⟨b1, l1, .slice A n c, L⟩ m W) := by
  obtain ⟨w9, hw9⟩ : ∃ w9, w9 = (((W.alloc (.cells #[.int .i64 b1, .int .i64 l1, .slice A n c] 75)).alloc (.cells (mcells m sv).toArray 32)).alloc (.cells #[.int .i64 b1, .int .i64 l1, .slice A n c] 75)) := ⟨_, rfl⟩
  have B9 : Bk w9 (W.heap.size + 1 + 1) 75 [.int .i64 b1, .int .i64 l1, .slice A n c] := by rw [hw9]; exact Bk.new' (by simp) rfl
  have HF := Lib.hid (show HeardR ⟨b1, l1, .slice A n c, L⟩ m W (.returned (.tuple #[.agg #[.int .i64 b1, .int .i64 l1, .slice A n c], .bool false])) w9 from
    ⟨by rw [hw9]; exact (((Kp.refl No W).alloc _).alloc _).alloc _, .inl ⟨by unfold heardS toCl; rw [if_pos hb], rfl⟩⟩)
  have x0 := B9.cell 0
  have x1 := B9.cell 1
  have x2 := B9.cell 2
  simp only [List.getElem?_cons_zero, List.getElem?_cons_succ] at x0 x1 x2
  clear B9
  rw [hw9] at x0 x1 x2
  have HW9 := Lib.hid hw9
  clear hw9
  unfold dcC
  unfold mcells at x0 x1 x2 HW9 ⊢
  go_enter Tryz.func26, Tryz.ntmps26
  go_wp2
  refine bodyPost_ret (v := .tuple #[.agg #[.int .i64 b1, .int .i64 l1, .slice A n c], .bool false]) (by simp [results, Tryz.results26, go_sem, x0, x1, x2]) rfl ?_
  have hf := HF.out
  rw [HW9.out] at hf
  exact hf
set_option maxRecDepth 100000 in
set_option maxHeartbeats 4000000 in
theorem dheard_new (b1 l1 : Int) (v : Value) (L : List (Msg × Value)) (m : Msg) (sv : Value) (W : World) (hb : b1 < m.boot) :
    Calls Tryz.prog 26 #[.agg (dcC ⟨b1, l1, v, L⟩).toArray, .agg (mcells m sv).toArray] W (HeardR ⟨b1, l1, v, L⟩ m W) := by
  obtain ⟨lo, hlo⟩ : ∃ lo, lo = max 1 m.low := ⟨_, rfl⟩
  have h3 : max 1 m.low = lo := hlo.symm
  have H0 := Lib.hid (show Bk ((((W.alloc (.cells #[.int .i64 m.boot, .int .i64 1, .slice none 0 0] 75)).alloc (.cells (mcells m sv).toArray 32)).alloc (.cells #[.int .i64 0, .int .i64 0, .slice none 0 0] 75)).alloc (.cells #[.int .i64 m.boot, .int .i64 lo, .slice none 0 0] 75)) W.heap.size 75 [.int .i64 m.boot, .int .i64 1, .slice none 0 0] from (((Bk.new' rfl rfl).alloc _).alloc _).alloc _)
  have H2 := Lib.hid (show Bk ((((W.alloc (.cells #[.int .i64 m.boot, .int .i64 1, .slice none 0 0] 75)).alloc (.cells (mcells m sv).toArray 32)).alloc (.cells #[.int .i64 0, .int .i64 0, .slice none 0 0] 75)).alloc (.cells #[.int .i64 m.boot, .int .i64 lo, .slice none 0 0] 75)) (W.heap.size + 1 + 1) 75 [.int .i64 0, .int .i64 0, .slice none 0 0] from (Bk.new' (by simp) rfl).alloc _)
  have H3 := Lib.hid (show Bk ((((W.alloc (.cells #[.int .i64 m.boot, .int .i64 1, .slice none 0 0] 75)).alloc (.cells (mcells m sv).toArray 32)).alloc (.cells #[.int .i64 0, .int .i64 0, .slice none 0 0] 75)).alloc (.cells #[.int .i64 m.boot, .int .i64 lo, .slice none 0 0] 75)) (W.heap.size + 1 + 1 + 1) 75 [.int .i64 m.boot, .int .i64 lo, .slice none 0 0] from Bk.new' (by simp) rfl)
  have HK := Lib.hid (show Kp No W ((((W.alloc (.cells #[.int .i64 m.boot, .int .i64 1, .slice none 0 0] 75)).alloc (.cells (mcells m sv).toArray 32)).alloc (.cells #[.int .i64 0, .int .i64 0, .slice none 0 0] 75)).alloc (.cells #[.int .i64 m.boot, .int .i64 lo, .slice none 0 0] 75)) from ((((Kp.refl No W).alloc _).alloc _).alloc _).alloc _)
  have n1 : ¬ m.boot < b1 := by omega
  have HB := Lib.hid hb; have HLO := Lib.hid hlo
  clear hlo
  unfold dcC
  unfold mcells at H0 H2 H3 HK ⊢
  go_enter Tryz.func26, Tryz.ntmps26
  go_wp2
  go_loopw [7] (fun t wr => t = .int .i64 0 ∧ Bk wr (W.heap.size + 1 + 1 + 1) 75 [.int .i64 m.boot, .int .i64 lo, .slice none 0 0] ∧ Bk wr W.heap.size 75 [.int .i64 m.boot, .int .i64 1, .slice none 0 0] ∧ Bk wr (W.heap.size + 1 + 1) 75 [.int .i64 0, .int .i64 0, .slice none 0 0] ∧ Kp No W wr) (fun t _ => 0)
  case atStart => exact ⟨rfl, H3.out, H0.out, H2.out, HK.out⟩
  case round =>
  obtain ⟨rfl, h3', h0', h2', hkp⟩ := hrel
  clear H3 H0 H2 HK
  have H3 := Lib.hid h3'; have H2 := Lib.hid h2'
  obtain ⟨w9, hw9⟩ : ∃ w9, w9 = ((wr.setCell ⟨(W.heap.size + 1 + 1), 0, none⟩ (.int .i64 m.boot)).setCell ⟨(W.heap.size + 1 + 1), 1, none⟩ (.int .i64 lo)).setCell ⟨(W.heap.size + 1 + 1), 2, none⟩ (.slice none 0 0) := ⟨_, rfl⟩
  have B9 : Bk w9 (W.heap.size + 1 + 1) 75 [.int .i64 m.boot, .int .i64 lo, .slice none 0 0] := by rw [hw9]; exact ((H2.out.set_ 0 _).set_ 1 _).set_ 2 _
  have K9 : Kp (One (W.heap.size + 1 + 1)) wr w9 := by rw [hw9]; exact (((Kp.refl (One (W.heap.size + 1 + 1)) wr).set (.inl rfl) 0 _).set (.inl rfl) 1 _).set (.inl rfl) 2 _
  have HF := Lib.hid (show HeardR ⟨b1, l1, v, L⟩ m W (.returned (.tuple #[.agg #[.int .i64 m.boot, .int .i64 lo, .slice none 0 0], .bool true])) w9 from by
    refine ⟨hkp.then_ K9 fun j hj e => by have e : j = (W.heap.size + 1 + 1) := e; omega, .inr ⟨⟨m.boot, lo, .slice none 0 0, []⟩, ?_, rfl, AnsR.nil _, Nat.zero_le _, fun a n c e => by cases e⟩⟩
    have hb := HB.out
    unfold heardS toCl
    simp only
    rw [if_neg (by omega), if_pos hb, ← HLO.out]
    rfl)
  have z0 : wr.cell? ⟨W.heap.size, 2, none⟩ = some (.slice none 0 0) := h0'.cell 2
  have z2 : wr.cell? ⟨(W.heap.size + 1 + 1 + 1), 2, none⟩ = some (.slice none 0 0) := H3.out.cell 2
  have z30 : wr.cell? ⟨(W.heap.size + 1 + 1 + 1), 0, none⟩ = some (.int .i64 m.boot) := H3.out.cell 0
  have z31 : wr.cell? ⟨(W.heap.size + 1 + 1 + 1), 1, none⟩ = some (.int .i64 lo) := H3.out.cell 1
  have r0 : wr.cell? ⟨(W.heap.size + 1 + 1), 0, none⟩ = some (.int .i64 0) := H2.out.cell 0
  have r1 : wr.cell? ⟨(W.heap.size + 1 + 1), 1, none⟩ = some (.int .i64 0) := H2.out.cell 1
  have r2 : wr.cell? ⟨(W.heap.size + 1 + 1), 2, none⟩ = some (.slice none 0 0) := H2.out.cell 2
  have rf := H2.out.frozen
  have x0 := B9.cell 0
  have x1 := B9.cell 1
  have x2 := B9.cell 2
  simp only [List.getElem?_cons_zero, List.getElem?_cons_succ] at x0 x1 x2
  clear B9 K9 h3' h0' h2' hkp
  rw [hw9] at x0 x1 x2
  have HW9 := Lib.hid hw9
  clear hw9
  go_wp2
  refine bodyPost_ret (v := .tuple #[.agg #[.int .i64 m.boot, .int .i64 lo, .slice none 0 0], .bool true]) (by simp [results, Tryz.results26, go_sem, x0, x1, x2]) rfl ?_
  have hf := HF.out
  rw [HW9.out] at hf
  exact hf
theorem dheard_any (x : Dc) (m : Msg) (sv : Value) (W : World) (h : DcOk W x) (hl : x.L.length ≤ 8) : Calls Tryz.prog 26 #[.agg (dcC x).toArray, .agg (mcells m sv).toArray] W (HeardR x m W) := by
  obtain ⟨b1, l1, v, L⟩ := x
  by_cases h1 : m.boot < b1
  · have h0 : AnsR W v L := h
    obtain ⟨⟨A, c, e, _⟩, _⟩ := id h0
    subst e
    exact dheard_old b1 l1 A _ c L m sv W h1
  · by_cases h2 : b1 < m.boot
    · exact dheard_new b1 l1 v L m sv W h2
    · have h0 : AnsR W v L := h
      obtain ⟨⟨A, c, e, _⟩, _⟩ := id h0
      subst e
      exact dheard_same b1 l1 A c L m sv W h0 hl (by omega)
end Go.Proofs.YtaipbikbapjmjaaGreat
