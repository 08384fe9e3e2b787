/- Several texts of this claim in one. No condition beyond what each theorem states. -/
import Derived.Test.YtaipbikbapjmjaaGreatB12
import Derived.Test.YtaipbikbapjmjaaGreatB16
/- replies.New by contract. No condition beyond what each theorem states. -/
namespace Go.Proofs.YtaipbikbapjmjaaGreat
open Go Go.RowKit Go.PlainAid

theorem zero_rep : Tryz.zeroCells69 = (rpC (newCV 0)).toArray := by kernel_rfl
set_option maxRecDepth 100000 in
set_option maxHeartbeats 2000000 in
theorem rnew_any (W : World) : Calls Tryz.prog 8 #[] W fun e w' => e = .returned (.pointer (some ⟨W.heap.size, 0, none⟩)) ∧ Bk w' W.heap.size 69 (rpC (newCV 8)) ∧ Kp No W w' := by
  have HZ := Lib.hid (show Bk (W.alloc (.cells Tryz.zeroCells69 69)) W.heap.size 69 (rpC (newCV 0)) from Bk.new' rfl zero_rep)
  have HK := Lib.hid ((Kp.refl No W).alloc (.cells Tryz.zeroCells69 69))
  go_enter Tryz.func8, Tryz.ntmps8
  go_wp2
  go_loopw [5] (fun i wr => ∃ k : Nat, k ≤ 8 ∧ i = .int .i64 k ∧ Bk wr W.heap.size 69 (rpC (newCV k)) ∧ Kp No W wr) (fun i _ => 8 - (intOf i).toNat)
  case atStart => exact ⟨0, Nat.zero_le _, rfl, HZ.out, HK.out⟩
  case round =>
  obtain ⟨k, hk, rfl, hb, hkp⟩ := hrel
  by_cases hlt : k < 8
  · have hk0 : (0 : Int) ≤ (k : Int) := by omega
    have hk1 : (k : Int) < 8 := by omega
    have hl : k < (newCV k).length := by rw [newCV_len k hk]; exact hlt
    have hb2 := hb
    rw [rpC_split (newCV k) k hl, newCV_get k hlt] at hb2
    have hpl : (rpC ((newCV k).take k)).length = k * 138 := by
      rw [rpC_len _ fun x hx => newCV_ok k x (List.mem_of_mem_take hx), List.length_take, newCV_len k hk]; omega
    have z0 : wr.cell? ⟨W.heap.size, k * 138 + 1, none⟩ = some (.int .i64 0) := hb2.mid hpl 1 _ rfl
    have zf := hb.frozen (k * 138 + 1)
    have HB3 := Lib.hid (hb2.midSet (j := 1) hpl (by simp [cvC, clC]) (.int .i64 1))
    have HST := Lib.hid (show rpC (newCV (k + 1)) = rpC ((newCV k).take k) ++ ((cvC (0, 0, noSl)).set 1 (.int .i64 1) ++ rpC ((newCV k).drop (k + 1))) by
      rw [← newCV_step k hlt, rpC_set _ k hl]; rfl)
    have HK2 := Lib.hid hkp
    clear hb hb2 hpl hkp hl
    go_wp2
    go_roundw
    case rel => exact ⟨k + 1, by omega, by go_num, by rw [HST.out]; exact HB3.out, HK2.out.set (.inr (Nat.le_refl _)) _ _⟩
    case measure => simp [intOf]; omega
  have hk1 : ¬ (k : Int) < 8 := by omega
  have hk8 : k = 8 := by omega
  subst hk8
  have HB9 := Lib.hid hb; have HK9 := Lib.hid hkp
  clear hb hkp
  go_wp2
  go_ret
  exact ⟨rfl, HB9.out, HK9.out⟩
end Go.Proofs.YtaipbikbapjmjaaGreat

/- awake of the law by contract. No condition beyond what each theorem states. -/
namespace Go.Proofs.YtaipbikbapjmjaaGreat
open Go Go.RowKit Go.PlainAid

theorem small_rng15 {m : Msg} (h : m.kind < 9223372036854775808 ∧ m.from_ < 9223372036854775808 ∧ m.dest < 9223372036854775808 ∧ m.boot < 9223372036854775808 ∧ m.seq < 9223372036854775808 ∧ m.low < 9223372036854775808 ∧ m.verb < 9223372036854775808 ∧ m.mode < 9223372036854775808 ∧ m.term < 9223372036854775808 ∧ m.id < 9223372036854775808 ∧ m.code < 9223372036854775808 ∧ m.origin < 9223372036854775808 ∧ m.number < 9223372036854775808) (hs : m.stamp = []) : Rng m := by
  refine ⟨fun x hx => ?_, fun x hx => by rw [hs] at hx; cases hx⟩
  simp only [List.mem_cons, List.not_mem_nil, or_false] at hx
  rcases hx with rfl | rfl | rfl | rfl | rfl | rfl | rfl | rfl | rfl | rfl | rfl | rfl | rfl <;> simp only [h]
theorem msg_there (w : World) (m : Msg) (sv : Value) : (w.alloc (.cells #[.int .i64 0, .int .i64 0, .int .i64 0, .int .i64 0, .int .i64 0, .int .i64 0, .int .i64 0, .string ⟨#[]⟩, .int .i64 0, .int .i64 0, .int .i64 0, .bool false, .int .i64 0, .slice none 0 0, .int .i64 0, .int .i64 0] 32)).there w.heap.size 0 (mcells m sv).toArray.size :=
  (show Bk (w.alloc (.cells #[.int .i64 0, .int .i64 0, .int .i64 0, .int .i64 0, .int .i64 0, .int .i64 0, .int .i64 0, .string ⟨#[]⟩, .int .i64 0, .int .i64 0, .int .i64 0, .bool false, .int .i64 0, .slice none 0 0, .int .i64 0, .int .i64 0] 32)) w.heap.size 32 (mcells ({} : Msg) (.slice none 0 0)) from Bk.new' rfl rfl).there 0 _ (by simp [mcells])
theorem msg_info (m : Msg) (sv : Value) : (Tryz.prog.info? 32).map (·.size) = some (mcells m sv).toArray.size := by kernel_rfl
theorem msg_one (m : Msg) (A : Option Addr) (n c : Nat) : (mcells m (.slice A n c)).toArray.all (·.oneCell') = true := by simp [mcells, Value.oneCell']
theorem msg_store (w : World) (m : Msg) (A : Option Addr) (n c : Nat) : Bk ((w.alloc (.cells #[.int .i64 0, .int .i64 0, .int .i64 0, .int .i64 0, .int .i64 0, .int .i64 0, .int .i64 0, .string ⟨#[]⟩, .int .i64 0, .int .i64 0, .int .i64 0, .bool false, .int .i64 0, .slice none 0 0, .int .i64 0, .int .i64 0] 32)).setCells w.heap.size 0 (mcells m (.slice A n c))) w.heap.size 32 (mcells m (.slice A n c)) ∧ Kp No w ((w.alloc (.cells #[.int .i64 0, .int .i64 0, .int .i64 0, .int .i64 0, .int .i64 0, .int .i64 0, .int .i64 0, .string ⟨#[]⟩, .int .i64 0, .int .i64 0, .int .i64 0, .bool false, .int .i64 0, .slice none 0 0, .int .i64 0, .int .i64 0] 32)).setCells w.heap.size 0 (mcells m (.slice A n c))) := by
  refine ⟨?_, Kp.sets _ 0 ((Kp.refl No w).alloc _) (.inr (Nat.le_refl _))⟩
  have h0 : Bk (w.alloc (.cells #[.int .i64 0, .int .i64 0, .int .i64 0, .int .i64 0, .int .i64 0, .int .i64 0, .int .i64 0, .string ⟨#[]⟩, .int .i64 0, .int .i64 0, .int .i64 0, .bool false, .int .i64 0, .slice none 0 0, .int .i64 0, .int .i64 0] 32)) w.heap.size 32 (mcells ({} : Msg) (.slice none 0 0)) := Bk.new' rfl rfl
  have h := Bk.sets (mcells m (.slice A n c)) 0 h0 (by simp [mcells])
  rw [List.take_zero, List.nil_append, List.drop_of_length_le (by simp [mcells]), List.append_nil] at h
  exact h
theorem rpB_new {w : World} {b : Nat} (hb : Bk w b 69 (rpC (newCV 8))) : RpB w b (fun _ => True) (List.replicate 8 {}) := by
  refine ⟨newCV 8, newCV_len 8 (by omega), newCV_ok 8, rfl, hb, fun x hx y hy => ?_⟩
  have hx2 : x = (0, 1, noSl) := by
    unfold newCV at hx
    simp only [Nat.sub_self, List.replicate_zero, List.append_nil] at hx
    exact (List.mem_replicate.1 hx).2
  subst hx2
  have hy2 : y = ({}, .slice none 0 0) := (List.mem_replicate.1 hy).2
  subst hy2
  exact SvP.none _ _
def aw0 : List Pc := List.replicate 8 {}
def aw1 : List Pc := (seenP aw0 (askM 1 1 1)).1
def aw2 : List Pc := (keepP aw1 (askM 1 1 1) (refM 1 1)).1
def aw3 : List Pc := (keepP aw2 (askM 1 1 1) (refM 1 1)).1
def aw4 : List Pc := (seenP aw3 (askM 1 1 1)).1
def aw5 : List Pc := (seenP aw4 (askM 1 2 2)).1
def aw6 : List Pc := (seenP aw5 (askM 1 1 1)).1
theorem aw_e1 : seenP aw0 (askM 1 1 1) = (aw1, 3, {}) := by kernel_rfl
theorem aw_e2 : keepP aw1 (askM 1 1 1) (refM 1 1) = (aw2, true) := by kernel_rfl
theorem aw_e3 : keepP aw2 (askM 1 1 1) (refM 1 1) = (aw3, false) := by kernel_rfl
theorem aw_e4 : seenP aw3 (askM 1 1 1) = (aw4, 2, refM 1 1) := by kernel_rfl
theorem aw_e5 : seenP aw4 (askM 1 2 2) = (aw5, 3, {}) := by kernel_rfl
theorem aw_e6 : seenP aw5 (askM 1 1 1) = (aw6, 1, {}) := by kernel_rfl
theorem aw_e7 : lenP aw6 1 = 0 := by kernel_rfl
set_option maxRecDepth 100000 in
set_option maxHeartbeats 8000000 in
theorem awake_any (W : World) : Calls Tryz.prog 9 #[] W fun e w' => e = .returned (.bool true) ∧ Kp No W w' := by
  go_enter Tryz.func9, Tryz.ntmps9
  go_wp2_with fail
  refine (rnew_any _).mono ?_
  rintro e w0 ⟨rfl, hb0, k0⟩
  have HR0 := Lib.hid (rpB_new hb0)
  have HK0 := Lib.hid k0
  have HBW := Lib.hid (show W.heap.size ≤ W.heap.size from Nat.le_refl _)
  clear hb0 k0
  obtain ⟨b, hb⟩ : ∃ b, b = W.heap.size := ⟨_, rfl⟩
  rw [← hb] at HR0 ⊢
  have HBW := Lib.hid (show W.heap.size ≤ b by omega)
  clear hb
  go_wp2_with fail
  refine (ask_any 1 1 1 _).mono ?_
  rintro e w1 ⟨rfl, k1⟩
  have HR1 := Lib.hid (HR0.out.no k1)
  clear HR0
  have HK1 := Lib.hid (HK0.out.trans k1)
  clear HK0
  clear k1
  have ps2 := rseen_any b (fun _ => True) aw0 (askM 1 1 1) (.slice none 0 0) w1 HR1.out (SlI.nil _ _ _) (small_rng15 (by simp [askM]) rfl) ⟨by simp [askM, maxLen], by simp [askM, maxLen]⟩
  unfold SeenR at ps2
  rw [aw_e1] at ps2
  go_wp2_with fail
  refine ps2.mono ?_
  rintro e w2 ⟨r2, k2, sv2, rfl, o2⟩
  obtain ⟨A2, c2, rfl, _⟩ := own_len o2
  have HK2 := Lib.hid (HK1.out.then_ k2 fun j hj e => by have e : j = b := e; have := HBW.out; omega)
  clear HK1
  have HR2 := Lib.hid r2
  clear ps2 r2 k2 o2 HR1
  go_upto_region 3 with (refine wpList_store_mid rfl _ _ _ rfl w2.heap.size 0 (mcells ({} : Msg) (.slice A2 0 c2)).toArray rfl rfl (msg_there _ _ _) (msg_info _ _) (msg_one _ _ _ _) ?_)
  have g3 := msg_store w2 ({} : Msg) A2 0 c2
  generalize hw3 : World.setCells _ w2.heap.size 0 _ = w3
  rw [show (w2.alloc (.cells #[.int .i64 0, .int .i64 0, .int .i64 0, .int .i64 0, .int .i64 0, .int .i64 0, .int .i64 0, .string ⟨#[]⟩, .int .i64 0, .int .i64 0, .int .i64 0, .bool false, .int .i64 0, .slice none 0 0, .int .i64 0, .int .i64 0] 32)).setCells w2.heap.size 0 (mcells ({} : Msg) (.slice A2 0 c2)) = w3 from hw3] at g3
  clear hw3
  obtain ⟨b3, k3⟩ := g3
  have HR3 := Lib.hid (HR2.out.no k3)
  clear HR2
  have HK3 := Lib.hid (HK2.out.trans k3)
  clear HK2
  clear k3
  have z0 := b3.cell 0
  simp only [mcells, List.getElem?_cons_zero] at z0
  clear b3
  go_wp2_with fail
  refine (ask_any 1 1 1 _).mono ?_
  rintro e w4 ⟨rfl, k4⟩
  have HR4 := Lib.hid (HR3.out.no k4)
  clear HR3
  have HK4 := Lib.hid (HK3.out.trans k4)
  clear HK3
  clear k4
  clear z0
  go_wp2_with fail
  refine (refusal_any 1 1 _).mono ?_
  rintro e w5 ⟨rfl, k5⟩
  have HR5 := Lib.hid (HR4.out.no k5)
  clear HR4
  have HK5 := Lib.hid (HK4.out.trans k5)
  clear HK4
  clear k5
  have ps6 := rkeep_any b (fun _ => True) aw1 (askM 1 1 1) (refM 1 1) (.slice none 0 0) (.slice none 0 0) w5 HR5.out (SlI.nil _ _ _) (small_rng15 (by simp [askM]) rfl) ⟨by simp [askM, maxLen], by simp [askM, maxLen]⟩ (SlI.nil _ _ _) (small_rng15 (by simp [refM]) rfl) ⟨by simp [refM, maxLen], by simp [refM, maxLen]⟩
  unfold KeepR at ps6
  rw [aw_e2] at ps6
  go_wp2_with fail
  refine ps6.mono ?_
  rintro e w6 ⟨r6, k6, rfl⟩
  have HK6 := Lib.hid (HK5.out.then_ k6 fun j hj e => by have e : j = b := e; have := HBW.out; omega)
  clear HK5
  have HR6 := Lib.hid (r6.mono fun _ _ => trivial)
  clear ps6 r6 k6 HR5
  go_wp2_with fail
  refine (ask_any 1 1 1 _).mono ?_
  rintro e w7 ⟨rfl, k7⟩
  have HR7 := Lib.hid (HR6.out.no k7)
  clear HR6
  have HK7 := Lib.hid (HK6.out.trans k7)
  clear HK6
  clear k7
  go_wp2_with fail
  refine (refusal_any 1 1 _).mono ?_
  rintro e w8 ⟨rfl, k8⟩
  have HR8 := Lib.hid (HR7.out.no k8)
  clear HR7
  have HK8 := Lib.hid (HK7.out.trans k8)
  clear HK7
  clear k8
  have ps9 := rkeep_any b (fun _ => True) aw2 (askM 1 1 1) (refM 1 1) (.slice none 0 0) (.slice none 0 0) w8 HR8.out (SlI.nil _ _ _) (small_rng15 (by simp [askM]) rfl) ⟨by simp [askM, maxLen], by simp [askM, maxLen]⟩ (SlI.nil _ _ _) (small_rng15 (by simp [refM]) rfl) ⟨by simp [refM, maxLen], by simp [refM, maxLen]⟩
  unfold KeepR at ps9
  rw [aw_e3] at ps9
  go_wp2_with fail
  refine ps9.mono ?_
  rintro e w9 ⟨r9, k9, rfl⟩
  have HK9 := Lib.hid (HK8.out.then_ k9 fun j hj e => by have e : j = b := e; have := HBW.out; omega)
  clear HK8
  have HR9 := Lib.hid (r9.mono fun _ _ => trivial)
  clear ps9 r9 k9 HR8
  go_wp2_with fail
  refine (ask_any 1 1 1 _).mono ?_
  rintro e w10 ⟨rfl, k10⟩
  have HR10 := Lib.hid (HR9.out.no k10)
  clear HR9
  have HK10 := Lib.hid (HK9.out.trans k10)
  clear HK9
  clear k10
  have ps11 := rseen_any b (fun _ => True) aw3 (askM 1 1 1) (.slice none 0 0) w10 HR10.out (SlI.nil _ _ _) (small_rng15 (by simp [askM]) rfl) ⟨by simp [askM, maxLen], by simp [askM, maxLen]⟩
  unfold SeenR at ps11
  rw [aw_e4] at ps11
  go_wp2_with fail
  refine ps11.mono ?_
  rintro e w11 ⟨r11, k11, sv11, rfl, o11⟩
  obtain ⟨A11, c11, rfl, _⟩ := own_len o11
  have HK11 := Lib.hid (HK10.out.then_ k11 fun j hj e => by have e : j = b := e; have := HBW.out; omega)
  clear HK10
  have HR11 := Lib.hid r11
  clear ps11 r11 k11 o11 HR10
  go_upto_region 6 with (refine wpList_store_mid rfl _ _ _ rfl w11.heap.size 0 (mcells (refM 1 1) (.slice A11 0 c11)).toArray rfl rfl (msg_there _ _ _) (msg_info _ _) (msg_one _ _ _ _) ?_)
  have g12 := msg_store w11 (refM 1 1) A11 0 c11
  generalize hw12 : World.setCells _ w11.heap.size 0 _ = w12
  rw [show (w11.alloc (.cells #[.int .i64 0, .int .i64 0, .int .i64 0, .int .i64 0, .int .i64 0, .int .i64 0, .int .i64 0, .string ⟨#[]⟩, .int .i64 0, .int .i64 0, .int .i64 0, .bool false, .int .i64 0, .slice none 0 0, .int .i64 0, .int .i64 0] 32)).setCells w11.heap.size 0 (mcells (refM 1 1) (.slice A11 0 c11)) = w12 from hw12] at g12
  clear hw12
  obtain ⟨b12, k12⟩ := g12
  have HR12 := Lib.hid (HR11.out.no k12)
  clear HR11
  have HK12 := Lib.hid (HK11.out.trans k12)
  clear HK11
  clear k12
  have HZ := Lib.hid b12
  clear b12
  have HZNE := Lib.hid (show w11.heap.size ≠ b from fun e => by have h1 := HR12.out.at_; obtain ⟨cs, h1⟩ := h1; exact (h1.ne_ (by rw [← e]; exact HZ.out) (by decide)) rfl)
  go_wp2_with fail
  refine (ask_any 1 2 2 _).mono ?_
  rintro e w13 ⟨rfl, k13⟩
  have HR13 := Lib.hid (HR12.out.no k13)
  clear HR12
  have HK13 := Lib.hid (HK12.out.trans k13)
  clear HK12
  have HZ13 := Lib.hid (HZ.out.no k13)
  clear HZ
  clear k13
  have ps14 := rseen_any b (fun _ => True) aw4 (askM 1 2 2) (.slice none 0 0) w13 HR13.out (SlI.nil _ _ _) (small_rng15 (by simp [askM]) rfl) ⟨by simp [askM, maxLen], by simp [askM, maxLen]⟩
  unfold SeenR at ps14
  rw [aw_e5] at ps14
  go_wp2_with fail
  refine ps14.mono ?_
  rintro e w14 ⟨r14, k14, sv14, rfl, o14⟩
  obtain ⟨A14, c14, rfl, _⟩ := own_len o14
  have HK14 := Lib.hid (HK13.out.then_ k14 fun j hj e => by have e : j = b := e; have := HBW.out; omega)
  clear HK13
  have HZ14 := Lib.hid (HZ13.out.kp k14 (fun e => by have e : _ = b := e; have := HZNE.out; omega))
  clear HZ13
  have HR14 := Lib.hid r14
  clear ps14 r14 k14 o14 HR13
  go_upto_region 7 with (refine wpList_store_mid rfl _ _ _ rfl w14.heap.size 0 (mcells ({} : Msg) (.slice A14 0 c14)).toArray rfl rfl (msg_there _ _ _) (msg_info _ _) (msg_one _ _ _ _) ?_)
  have g15 := msg_store w14 ({} : Msg) A14 0 c14
  generalize hw15 : World.setCells _ w14.heap.size 0 _ = w15
  rw [show (w14.alloc (.cells #[.int .i64 0, .int .i64 0, .int .i64 0, .int .i64 0, .int .i64 0, .int .i64 0, .int .i64 0, .string ⟨#[]⟩, .int .i64 0, .int .i64 0, .int .i64 0, .bool false, .int .i64 0, .slice none 0 0, .int .i64 0, .int .i64 0] 32)).setCells w14.heap.size 0 (mcells ({} : Msg) (.slice A14 0 c14)) = w15 from hw15] at g15
  clear hw15
  obtain ⟨b15, k15⟩ := g15
  have HR15 := Lib.hid (HR14.out.no k15)
  clear HR14
  have HK15 := Lib.hid (HK14.out.trans k15)
  clear HK14
  have HZ15 := Lib.hid (HZ14.out.no k15)
  clear HZ14
  clear k15
  clear b15
  go_wp2_with fail
  refine (ask_any 1 1 1 _).mono ?_
  rintro e w16 ⟨rfl, k16⟩
  have HR16 := Lib.hid (HR15.out.no k16)
  clear HR15
  have HK16 := Lib.hid (HK15.out.trans k16)
  clear HK15
  have HZ16 := Lib.hid (HZ15.out.no k16)
  clear HZ15
  clear k16
  have ps17 := rseen_any b (fun _ => True) aw5 (askM 1 1 1) (.slice none 0 0) w16 HR16.out (SlI.nil _ _ _) (small_rng15 (by simp [askM]) rfl) ⟨by simp [askM, maxLen], by simp [askM, maxLen]⟩
  unfold SeenR at ps17
  rw [aw_e6] at ps17
  go_wp2_with fail
  refine ps17.mono ?_
  rintro e w17 ⟨r17, k17, sv17, rfl, o17⟩
  obtain ⟨A17, c17, rfl, _⟩ := own_len o17
  have HK17 := Lib.hid (HK16.out.then_ k17 fun j hj e => by have e : j = b := e; have := HBW.out; omega)
  clear HK16
  have HZ17 := Lib.hid (HZ16.out.kp k17 (fun e => by have e : _ = b := e; have := HZNE.out; omega))
  clear HZ16
  have HR17 := Lib.hid r17
  clear ps17 r17 k17 o17 HR16
  go_upto_region 8 with (refine wpList_store_mid rfl _ _ _ rfl w17.heap.size 0 (mcells ({} : Msg) (.slice A17 0 c17)).toArray rfl rfl (msg_there _ _ _) (msg_info _ _) (msg_one _ _ _ _) ?_)
  have g18 := msg_store w17 ({} : Msg) A17 0 c17
  generalize hw18 : World.setCells _ w17.heap.size 0 _ = w18
  rw [show (w17.alloc (.cells #[.int .i64 0, .int .i64 0, .int .i64 0, .int .i64 0, .int .i64 0, .int .i64 0, .int .i64 0, .string ⟨#[]⟩, .int .i64 0, .int .i64 0, .int .i64 0, .bool false, .int .i64 0, .slice none 0 0, .int .i64 0, .int .i64 0] 32)).setCells w17.heap.size 0 (mcells ({} : Msg) (.slice A17 0 c17)) = w18 from hw18] at g18
  clear hw18
  obtain ⟨b18, k18⟩ := g18
  have HR18 := Lib.hid (HR17.out.no k18)
  clear HR17
  have HK18 := Lib.hid (HK17.out.trans k18)
  clear HK17
  have HZ18 := Lib.hid (HZ17.out.no k18)
  clear HZ17
  clear k18
  clear b18
  have z12 := HZ18.out.cell 12
  have z4 := HZ18.out.cell 4
  simp only [mcells, refM, List.getElem?_cons_zero, List.getElem?_cons_succ] at z12 z4
  have ps19 := rlen_any b (fun _ => True) aw6 1 w18 HR18.out
  rw [aw_e7] at ps19
  go_wp2_with fail
  refine ps19.mono ?_
  rintro e w19 ⟨rfl, k19⟩
  clear ps19
  have HR19 := Lib.hid (HR18.out.no k19)
  clear HR18
  have HK19 := Lib.hid (HK18.out.trans k19)
  clear HK18
  have HZ19 := Lib.hid (HZ18.out.no k19)
  clear HZ18
  clear k19
  clear z12 z4
  go_wp2
  go_ret
  exact ⟨rfl, HK19.out⟩
end Go.Proofs.YtaipbikbapjmjaaGreat
