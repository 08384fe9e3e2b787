/- The fields of a message, made (wire). No condition beyond what each theorem states. -/
import Derived.Test.YtbnpdghfbiacaaaMt
namespace Go.Proofs.Ytbnpdghfbiacaaa
open Go Go.RowKit Go.PlainAid

theorem Try.infoField : (Try.prog.info? 55).map (fun i => (i.zero, i.size, i.bytes)) = some (some (.agg #[.nilFunc, .nilFunc, .nilFunc]), 3, 24) := by kernel_rfl
theorem fs_built {W w : World} {C : Array Value} {vs : List FV} {L : List Fld} {n : Nat} (hC : C = ((vs.map FV.cells).flatten).toArray) (hk : Kp No W w) (hl : vs.length = L.length) (hn : n = L.length) (hm : L.length ≤ 1000) (hf : ∀ p ∈ vs.zip L, FOk w p.1 p.2) :
    FsAt (w.alloc (.cells C 55)) W.heap.size (.slice (some ⟨w.heap.size, 0, none⟩) n n) L ∧ Kp No W (w.alloc (.cells C 55)) :=
  ⟨fsAt_new (Bk.new' rfl hC) hk.size hl hn hm fun p hp => (hf p hp).stay (Stay.no ((Kp.refl No w).alloc _)), hk.alloc _⟩
theorem FsAt.form {w : World} {B : Nat} {v : Value} {L : List Fld} (h : FsAt w B v L) : ∃ A c, v = .slice A L.length c := by
  obtain ⟨vs, h1, _⟩ := h
  obtain ⟨A, c, e, _⟩ := own_len h1
  exact ⟨A, c, e⟩
theorem wpList_appF (w : World) {ops : Array Oper} {rest : List Oper} {o : Oper} {a : Act} {Q : Exit → Act → World → Prop} (hgd : o.guard = none) (s x : Operand)
    (ho : o.op = .call { callee := .builtin .append, args := #[s, x], argTypes := #[46, 46] })
    (B : Nat) (hB : B ≤ w.heap.size) (v u : Value) (L1 L2 : List Fld) (hs : a.eval s = v) (hx : a.eval x = u) (h1 : FsAt w B v L1) (h2 : FsAt w B u L2) (hn : L1.length + L2.length ≤ 1000) (h0 : 0 < L2.length)
    (h : ∀ v' w', FsAt w' B v' (L1 ++ L2) → Kp (fun k => v.ownBlock = some k) w w' → wpList Try.prog ops Q rest (a.put o.dst v') w') : wpList Try.prog ops Q (o :: rest) a w := by
  obtain ⟨i0, hi, hz0, hz1, hz2⟩ := info_parts Try.infoField
  obtain ⟨vs1, o1, l1, f1⟩ := h1
  obtain ⟨vs2, o2, l2, f2⟩ := h2
  obtain ⟨g, c, rfl, _, _⟩ := own_form o2 h0
  obtain ⟨v', w', hr, hown, hgr, _, hat⟩ := run_append_own_at (P := Try.prog) w B 46 o.type 55 i0 _ 3 24 Try.underlying46 hi hz0 hz1 hz2 rfl (by omega) v L1.length _ o1 ⟨g, 0, none⟩ L2.length c ((vs2.map FV.cells).flatten) (by rw [cells_len, l2, Nat.mul_comm])
    (fun j y hy => o2.cells (g := g) rfl j y hy) (cells_one vs2) (by unfold maxLen; omega) (by omega) hB
  refine wpList_plain hgd fun _ hK => ?_
  unfold Oper.wp execOp
  simp only [ho, resolve, invoke, builtin, Sem.run_bind, Sem.run_pure, Result.andThen_ok, List.map_toArray, List.map_cons, List.map_nil, hs, hx, hr]
  refine hK _ _ (h v' w' ?_ ((Kp.of_grownBy hgr).mono fun k _ e => e))
  have ht : Tys (fun k => v.ownBlock = some k) w [55] := fun k hk _ => by
    obtain ⟨cs, hb⟩ := own_bk o1 k hk
    exact ⟨_, cs, hb, List.mem_singleton.2 rfl⟩
  have hst : Stay w w' := Stay.of_kp ((Kp.of_grownBy hgr).mono fun k _ e => e) ht (by decide)
  refine ⟨vs1 ++ vs2, ?_, by simp [l1, l2], ?_⟩
  · rw [List.map_append, List.flatten_append, List.length_append]; exact hown
  · intro p hp
    rw [List.zip_append l1, List.mem_append] at hp
    rcases hp with hp | hp
    · exact (f1 p hp).stay hst
    · exact (f2 p hp).stay hst
def AskedR (W : World) (v : Int) (e : Ending) (w' : World) : Prop := ∃ sv, e = .returned sv ∧ FsAt w' W.heap.size sv (askedF vpP v) ∧ Kp No W w'
set_option maxRecDepth 100000 in
set_option maxHeartbeats 2000000 in
theorem asked_any (v : Int) (W : World) : Calls Try.prog 36 #[.int .i64 v] W (AskedR W v) := by
  by_cases h1 : v = 1
  · subst h1
    go_enter Try.func36, Try.ntmps36
    go_wp2_with fail
    refine (path_any _).mono ?_
    rintro e w1 ⟨v1, rfl, f1, k1⟩
    have F1 := Lib.hid f1; have K1 := Lib.hid k1; clear f1 k1
    go_wp2_with fail
    refine (mkMode _).mono ?_
    rintro e w2 ⟨v2, rfl, f2, k2⟩
    have F2 := Lib.hid f2; have K2 := Lib.hid k2; clear f2 k2
    go_wp2_with fail
    refine (mkTerm _).mono ?_
    rintro e w3 ⟨v3, rfl, f3, k3⟩
    have F3 := Lib.hid f3; have K3 := Lib.hid k3; clear f3 k3
    simp only [FV.cells]
    go_wp2
    go_ret
    obtain ⟨q1, q2⟩ := fs_built (vs := [v1, v2, v3]) (L := [fPath vpP, fMode, fTerm]) (n := 3) (C := #[.func (.func v1.wn) #[] v1.wc, .func (.func v1.rn) #[] v1.rc, .func (.func v1.fn) #[] v1.fc, .func (.func v2.wn) #[] v2.wc, .func (.func v2.rn) #[] v2.rc, .func (.func v2.fn) #[] v2.fc, .func (.func v3.wn) #[] v3.wc, .func (.func v3.rn) #[] v3.rc, .func (.func v3.fn) #[] v3.fc]) rfl ((K1.out.trans K2.out).trans K3.out) rfl rfl (by simp) (by
      intro p hp
      simp only [List.zip_cons_cons, List.zip_nil_right, List.mem_cons, List.not_mem_nil, or_false] at hp
      rcases hp with rfl | rfl | rfl
      · exact F1.out.stay (Stay.no (K2.out.trans K3.out))
      · exact F2.out.stay (Stay.no K3.out)
      · exact F3.out)
    exact ⟨_, rfl, q1, q2⟩
  · have d1 : (v == 1) = false := by rw [beq_eq_false_iff_ne]; exact h1
    by_cases h2 : v = 2
    · subst h2
      clear h1 d1
      go_enter Try.func36, Try.ntmps36
      go_wp2_with fail
      refine (mkId _).mono ?_
      rintro e w1 ⟨v1, rfl, f1, k1⟩
      have F1 := Lib.hid f1; have K1 := Lib.hid k1; clear f1 k1
      go_wp2_with fail
      refine (mkTerm _).mono ?_
      rintro e w2 ⟨v2, rfl, f2, k2⟩
      have F2 := Lib.hid f2; have K2 := Lib.hid k2; clear f2 k2
      go_wp2_with fail
      refine (fresh_any _).mono ?_
      rintro e w3 ⟨v3, rfl, f3, k3⟩
      have F3 := Lib.hid f3; have K3 := Lib.hid k3; clear f3 k3
      simp only [FV.cells]
      go_wp2
      go_ret
      obtain ⟨q1, q2⟩ := fs_built (vs := [v1, v2, v3]) (L := [fId, fTerm, fFresh]) (n := 3) (C := #[.func (.func v1.wn) #[] v1.wc, .func (.func v1.rn) #[] v1.rc, .func (.func v1.fn) #[] v1.fc, .func (.func v2.wn) #[] v2.wc, .func (.func v2.rn) #[] v2.rc, .func (.func v2.fn) #[] v2.fc, .func (.func v3.wn) #[] v3.wc, .func (.func v3.rn) #[] v3.rc, .func (.func v3.fn) #[] v3.fc]) rfl ((K1.out.trans K2.out).trans K3.out) rfl rfl (by simp) (by
        intro p hp
        simp only [List.zip_cons_cons, List.zip_nil_right, List.mem_cons, List.not_mem_nil, or_false] at hp
        rcases hp with rfl | rfl | rfl
        · exact F1.out.stay (Stay.no (K2.out.trans K3.out))
        · exact F2.out.stay (Stay.no K3.out)
        · exact F3.out)
      exact ⟨_, rfl, q1, q2⟩
    · have d2 : (v == 2) = false := by rw [beq_eq_false_iff_ne]; exact h2
      by_cases h3 : v = 3
      · subst h3
        clear h1 d1 h2 d2
        go_enter Try.func36, Try.ntmps36
        go_wp2_with fail
        refine (mkId _).mono ?_
        rintro e w1 ⟨v1, rfl, f1, k1⟩
        have F1 := Lib.hid f1; have K1 := Lib.hid k1; clear f1 k1
        simp only [FV.cells]
        go_wp2
        go_ret
        obtain ⟨q1, q2⟩ := fs_built (vs := [v1]) (L := [fId]) (n := 1) (C := #[.func (.func v1.wn) #[] v1.wc, .func (.func v1.rn) #[] v1.rc, .func (.func v1.fn) #[] v1.fc]) rfl K1.out rfl rfl (by simp) (by
          intro p hp
          simp only [List.zip_cons_cons, List.zip_nil_right, List.mem_cons, List.not_mem_nil, or_false] at hp
          subst hp
          exact F1.out)
        exact ⟨_, rfl, q1, q2⟩
      · have d3 : (v == 3) = false := by rw [beq_eq_false_iff_ne]; exact h3
        have HE := Lib.hid (show askedF vpP v = [fNone] by unfold askedF; rw [if_neg h1, if_neg h2, if_neg h3])
        clear h1 h2 h3
        go_enter Try.func36, Try.ntmps36
        go_wp2
        go_ret
        obtain ⟨q1, q2⟩ := fs_built (vs := [⟨64, #[], 65, #[], 66, #[]⟩]) (L := [fNone]) (n := 1) (W := W) (C := #[.func (.func 64) #[] #[], .func (.func 65) #[] #[], .func (.func 66) #[] #[]]) rfl (Kp.refl No W) rfl rfl (by simp) (by
          intro p hp
          simp only [List.zip_cons_cons, List.zip_nil_right, List.mem_cons, List.not_mem_nil, or_false] at hp
          subst hp
          exact none_ok W)
        exact ⟨_, rfl, by rw [HE.out]; exact q1, q2⟩
end Go.Proofs.Ytbnpdghfbiacaaa
