/- bytes.Trim of zero bytes, by contract. No condition beyond what each theorem states. -/
import Derived.Test.YthncnkkpfcbkfaaDoorOc
namespace Go.Proofs.YthncnkkpfcbkfaaDoor
open Go Go.RowKit

/-- the length without the zeros at the end -/
def zrK (l : List UInt8) : Nat → Nat
  | 0 => 0
  | k + 1 => if l.getD k 0 = 0 then zrK l k else k + 1
/-- the zeros at the head, d from the end n -/
def zlK (l : List UInt8) (n : Nat) : Nat → Nat
  | 0 => n
  | d + 1 => if l.getD (n - (d + 1)) 0 = 0 then zlK l n d else n - (d + 1)
theorem zrK_le (l : List UInt8) : ∀ k, zrK l k ≤ k
  | 0 => Nat.le_refl _
  | k + 1 => by unfold zrK; split; exact Nat.le_trans (zrK_le l k) (Nat.le_succ _); exact Nat.le_refl _
theorem zrK_last (l : List UInt8) : ∀ k, 0 < zrK l k → l.getD (zrK l k - 1) 0 ≠ 0
  | 0, h => by simp [zrK] at h
  | k + 1, h => by
    unfold zrK at h ⊢
    by_cases hz : l.getD k 0 = 0
    · rw [if_pos hz] at h ⊢; exact zrK_last l k h
    · rw [if_neg hz] at h ⊢; exact hz
theorem zrK_zero (l : List UInt8) : ∀ k, k ≤ l.length → (zrK l k = 0 ↔ zeroS (l.take k))
  | 0, _ => by simp [zrK, zeroS]
  | k + 1, h => by
    have ih := zrK_zero l k (by omega)
    have hg : l.getD k 0 = l[k] := by simp [List.getD_eq_getElem?_getD, List.getElem?_eq_getElem (show k < l.length by omega)]
    rw [zeroS_iff] at ih ⊢
    rw [take_snoc8 l k (by omega)]
    unfold zrK
    rw [hg]
    by_cases hz : l[k] = 0
    · rw [if_pos hz, ih]
      constructor
      · intro h x hx
        rcases List.mem_append.1 hx with hx | hx
        · exact h x hx
        · rw [List.mem_singleton.1 hx]; exact hz
      · exact fun h x hx => h x (List.mem_append_left _ hx)
    · rw [if_neg hz]
      exact ⟨fun h => by omega, fun h => absurd (h _ (List.mem_append_right _ (List.mem_singleton.2 rfl))) hz⟩

theorem ret_sl {x : Value} {A : Option Addr} {n m c : Nat} (hx : x = .slice A n c) (h : n = m) : Ending.returned x = .returned (.slice A m c) := by rw [hx, h]

set_option maxHeartbeats 1000000 in
theorem trimR_any (g o c : Nat) (l : List UInt8) (w : World) (hv : ArgB w (.slice (some ⟨g, o, none⟩) l.length c) l) (hm : c ≤ maxLen) :
    Calls Tryd.prog 39 #[.slice (some ⟨g, o, none⟩) l.length c, .int .u8 0] w fun e w' => e = .returned (.slice (some ⟨g, o, none⟩) (zrK l l.length) c) ∧ w = w' := by
  obtain ⟨hcs, _, hc⟩ := hv.cs
  have HV := Lib.hid hv; clear hv hcs
  unfold maxLen at hm
  go_enter Tryd.func39, Tryd.ntmps39
  go_wp2
  go_loop [0] (fun s => ∃ k : Nat, k ≤ l.length ∧ s = .slice (some ⟨g, o, none⟩) k c ∧ zrK l k = zrK l l.length) (fun s => match s with | .slice _ n _ => n | _ => 0)
  case atStart => exact ⟨_, Nat.le_refl _, rfl, rfl⟩
  case round =>
    obtain ⟨k, hk, rfl, hz⟩ := hrel
    have HZ := Lib.hid hz; clear hz
    rcases k with _ | k
    · have h0 := Lib.hid (show zrK l 0 = 0 from rfl)
      go_wp2
      go_ret
      exact ⟨ret_sl rfl (h0.out.symm.trans HZ.out), rfl⟩
    · obtain ⟨g', o', c', e1, hc', hxx⟩ := HV.out.at_ (by omega)
      injection e1 with e1 _ e1c
      injection e1 with e1
      injection e1 with e1 e2
      subst e1 e2 e1c
      have hx := hxx k _ (List.getElem?_eq_getElem (by omega))
      clear hxx
      have hg : l.getD k 0 = l[k] := by simp [List.getD_eq_getElem?_getD, List.getElem?_eq_getElem (show k < l.length by omega)]
      have hs : zrK l (k + 1) = if l[k] = 0 then zrK l k else k + 1 := by rw [← hg]; rfl
      generalize l[k] = x at *
      have HS := Lib.hid hs; clear hs hg
      have hk0 : (0 : Int) < ((k + 1 : Nat) : Int) := by omega
      have hk1 : ((k + 1 : Nat) : Int) - 1 = (k : Int) := by omega
      by_cases hx0 : x = 0
      · have hS := Lib.hid (HS.out.trans (if_pos hx0))
        subst hx0
        go_wp2
        go_round
        case rel => exact ⟨k, by omega, rfl, by rw [← hS.out]; exact HZ.out⟩
        case measure => simp
      · have hS := Lib.hid (HS.out.trans (if_neg hx0))
        have hxn : ((x.toNat : Int) == 0) = false := by
          rw [beq_eq_false_iff_ne]; intro e; apply hx0; apply UInt8.toNat_inj.1; show x.toNat = 0; omega
        clear hx0
        go_wp2
        go_ret
        exact ⟨ret_sl rfl (hS.out.symm.trans HZ.out), rfl⟩

theorem zlK_spec (l : List UInt8) (n : Nat) : ∀ d, d ≤ n → zlK l n d ≤ n ∧ n - d ≤ zlK l n d
  | 0, _ => ⟨Nat.le_refl _, by unfold zlK; omega⟩
  | d + 1, h => by
    have ih := zlK_spec l n d (by omega)
    unfold zlK
    split
    · exact ⟨ih.1, by omega⟩
    · omega
set_option maxHeartbeats 1000000 in
theorem trimL_nil (A : Option Addr) (c : Nat) (w : World) : Calls Tryd.prog 38 #[.slice A 0 c, .int .u8 0] w fun e w' => e = .returned (.slice none 0 0) ∧ w = w' := by
  go_enter Tryd.func38, Tryd.ntmps38
  go_wp2
  refine wp_loop_rounds 1 ?_
  rw [rounds_succ]
  go_wp2
  go_ret
  exact ⟨rfl, rfl⟩
set_option maxHeartbeats 1000000 in
/-- a list that ends with a byte that is not zero -/
theorem trimL_any (g o n c : Nat) (l : List UInt8) (w : World) (hv : ArgB w (.slice (some ⟨g, o, none⟩) n c) l) (hn : 0 < n) (hlast : l.getD (n - 1) 0 ≠ 0) (hm : c ≤ maxLen) :
    Calls Tryd.prog 38 #[.slice (some ⟨g, o, none⟩) n c, .int .u8 0] w fun e w' => e = .returned (.slice (some ⟨g, o + zlK l n n, none⟩) (n - zlK l n n) (c - zlK l n n)) ∧ w = w' := by
  obtain ⟨hcs, hnl, hc⟩ := hv.cs
  have HV := Lib.hid hv; clear hv hcs
  have HL := Lib.hid hlast; clear hlast
  unfold maxLen at hm
  have HN := Lib.hid hnl; clear hnl
  go_enter Tryd.func38, Tryd.ntmps38
  go_wp2
  go_loop [0] (fun s => ∃ i : Nat, i < n ∧ s = .slice (some ⟨g, o + i, none⟩) (n - i) (c - i) ∧ zlK l n (n - i) = zlK l n n) (fun s => match s with | .slice _ n _ => n | _ => 0)
  case atStart => exact ⟨0, hn, rfl, rfl⟩
  case round =>
    obtain ⟨i, hi, rfl, hz⟩ := hrel
    have HZ := Lib.hid hz; clear hz
    have hln := HN.out
    obtain ⟨g', o', c', e1, hc', hxx⟩ := HV.out.at_ (by omega)
    injection e1 with e1 e1n e1c
    clear e1n
    injection e1 with e1
    injection e1 with e1 e2
    subst e1 e2 e1c
    have hx := hxx i _ (List.getElem?_eq_getElem (by omega))
    clear hxx
    have hg : l.getD i 0 = l[i]'(by omega) := by simp [List.getD_eq_getElem?_getD, List.getElem?_eq_getElem (show i < l.length by omega)]
    obtain ⟨d, hd⟩ : ∃ d, n - i = d + 1 := ⟨n - i - 1, by omega⟩
    have hs : zlK l n (d + 1) = if l[i]'(by omega) = 0 then zlK l n d else i := by
      rw [← hg]
      show (if l.getD (n - (d + 1)) 0 = 0 then zlK l n d else n - (d + 1)) = _
      rw [show n - (d + 1) = i by omega]
    have hl : i + 1 = n → ¬ l[i]'(by omega) = 0 := fun e => by rw [← hg, show i = n - 1 by omega]; exact HL.out
    generalize l[i]'(by omega) = x at *
    have HS := Lib.hid hs; clear hs hg hln hc'
    have HD := Lib.hid hd
    have hcd : ∃ e, c - i = d + 1 + e := ⟨c - i - (d + 1), by omega⟩
    obtain ⟨e, hcd⟩ := hcd
    rw [hd, hcd]
    have HC := Lib.hid hcd
    rw [hd] at HZ
    by_cases hx0 : x = 0
    · have hS := Lib.hid (HS.out.trans (if_pos hx0))
      have hd1 : 0 < d := by
        rcases Nat.eq_zero_or_pos d with h | h
        · exact absurd hx0 (hl (by omega))
        · exact h
      clear hl hd hcd
      subst hx0
      have k0 : (0 : Int) < ((d + 1 : Nat) : Int) := by omega
      have k1 : ¬ d + 1 + e = 1 := by omega
      go_wp2
      go_round
      case rel => exact ⟨i + 1, by have := HD.out; omega, by have h1 := HD.out; have h2 := HC.out; rw [show n - (i + 1) = d by omega, show c - (i + 1) = d + e by omega]; first | rfl | (congr 2; omega) | (congr 1; omega), by rw [show n - (i + 1) = d by have := HD.out; omega, ← hS.out]; exact HZ.out⟩
      case measure => simp
    · have hS := Lib.hid (HS.out.trans (if_neg hx0))
      have hxn : ((x.toNat : Int) == 0) = false := by
        rw [beq_eq_false_iff_ne]; intro e; apply hx0; apply UInt8.toNat_inj.1; show x.toNat = 0; omega
      clear hx0 hl hd hcd
      have k0 : (0 : Int) < ((d + 1 : Nat) : Int) := by omega
      have hz : zlK l n n = i := by rw [← HZ.out]; exact hS.out
      have HF := Lib.hid hz; clear hz
      go_wp2
      go_ret
      refine ⟨?_, rfl⟩
      rw [HF.out, HD.out, HC.out]
      rfl

set_option maxHeartbeats 1000000 in
set_option maxRecDepth 100000 in
theorem trim_zero (A : Option Addr) (c : Nat) (l : List UInt8) (w : World) (hv : ArgB w (.slice A l.length c) l) (hm : c ≤ maxLen) (hz : zeroS l) :
    Calls Tryd.prog 28 #[.slice A l.length c, .string ⟨#[0]⟩] w fun e w' => e = .returned (.slice none 0 0) ∧ ∃ m, w' = w.drewN m := by
  by_cases h0 : l.length = 0
  · have HV := Lib.hid hv; clear hv
    rw [h0]
    have H0 := Lib.hid h0; clear h0
    go_enter Tryd.func28, Tryd.ntmps28
    go_wp2
    go_ret
    exact ⟨rfl, 0, rfl⟩
  · obtain ⟨g, o, c', e, _, _⟩ := hv.at_ (by omega)
    injection e with e e2 e3
    subst e e3
    clear e2
    have hzb : (({ data := #[0] } : ByteArray)[0]).toNat = 0 := by decide
    have h1 : ((l.length : Int) == 0) = false := by rw [beq_eq_false_iff_ne]; omega
    have HZ := Lib.hid ((zrK_zero l l.length (Nat.le_refl _)).2 (by rwa [List.take_length]))
    clear hz h0
    go_enter Tryd.func28, Tryd.ntmps28
    go_wp2_with fail
    have cq1 : ∀ n, Calls Tryd.prog 39 #[.slice (some ⟨g, o, none⟩) l.length c, .int .u8 0] (w.drewN n) fun e w' => e = .returned (.slice (some ⟨g, o, none⟩) 0 c) ∧ ∃ m, w' = w.drewN m := fun n => by
      have ct := trimR_any g o c l (w.drewN n) (hv.no ((Kp.refl _ _).drewN _)) hm
      rw [HZ.out] at ct
      exact ct.mono fun _ _ ⟨a, b⟩ => ⟨a, n, b.symm⟩
    have cq2 : ∀ n, Calls Tryd.prog 38 #[.slice (some ⟨g, o, none⟩) 0 c, .int .u8 0] (w.drewN n) fun e w' => e = .returned (.slice none 0 0) ∧ ∃ m, w' = w.drewN m := fun n =>
      (trimL_nil _ _ _).mono fun _ _ ⟨a, b⟩ => ⟨a, n, b.symm⟩
    clear hv HZ
    go_quiet ((first | (go_at_call 39; exact cq1 _) | (go_at_call 38; exact cq2 _)))
    go_wp2
    go_ret
    exact ⟨rfl, _, rfl⟩
/-- the answer for a list that is not all zeros -/
def trimV (g o c : Nat) (l : List UInt8) : Value := .slice (some ⟨g, o + zlK (l.take (zrK l l.length)) (zrK l l.length) (zrK l l.length), none⟩) (zrK l l.length - zlK (l.take (zrK l l.length)) (zrK l l.length) (zrK l l.length)) (c - zlK (l.take (zrK l l.length)) (zrK l l.length) (zrK l l.length))
set_option maxRecDepth 100000 in
set_option maxHeartbeats 1000000 in
theorem trim_some (g o c : Nat) (l : List UInt8) (w : World) (hv : ArgB w (.slice (some ⟨g, o, none⟩) l.length c) l) (hm : c ≤ maxLen) (hz : ¬ zeroS l) :
    Calls Tryd.prog 28 #[.slice (some ⟨g, o, none⟩) l.length c, .string ⟨#[0]⟩] w fun e w' => e = .returned (trimV g o c l) ∧ ∃ m, w' = w.drewN m := by
  have h0 : l.length ≠ 0 := by
    intro e; apply hz; rw [List.eq_nil_of_length_eq_zero e]; rfl
  have hzr : 0 < zrK l l.length := by
    rcases Nat.eq_zero_or_pos (zrK l l.length) with h | h
    · exact absurd ((zrK_zero l l.length (Nat.le_refl _)).1 h) (by rwa [List.take_length])
    · exact h
  have hle := zrK_le l l.length
  have hlast : (l.take (zrK l l.length)).getD (zrK l l.length - 1) 0 ≠ 0 := by
    have := zrK_last l l.length hzr
    rw [List.getD_eq_getElem?_getD] at this ⊢
    rwa [List.getElem?_take_of_lt (by omega)]
  have hzb : (({ data := #[0] } : ByteArray)[0]).toNat = 0 := by decide
  have h1 : ((l.length : Int) == 0) = false := by rw [beq_eq_false_iff_ne]; omega
  have hV : Hid (trimV g o c l = .slice (some ⟨g, o + zlK (l.take (zrK l l.length)) (zrK l l.length) (zrK l l.length), none⟩) (zrK l l.length - zlK (l.take (zrK l l.length)) (zrK l l.length) (zrK l l.length)) (c - zlK (l.take (zrK l l.length)) (zrK l l.length) (zrK l l.length))) := Lib.hid rfl
  have cq1 : ∀ n, Calls Tryd.prog 39 #[.slice (some ⟨g, o, none⟩) l.length c, .int .u8 0] (w.drewN n) fun e w' => e = .returned (.slice (some ⟨g, o, none⟩) (zrK l l.length) c) ∧ ∃ m, w' = w.drewN m := fun n =>
    (trimR_any g o c l (w.drewN n) (hv.no ((Kp.refl _ _).drewN _)) hm).mono fun _ _ ⟨a, b⟩ => ⟨a, n, b.symm⟩
  have cq2 : ∀ n, Calls Tryd.prog 38 #[.slice (some ⟨g, o, none⟩) (zrK l l.length) c, .int .u8 0] (w.drewN n) fun e w' => e = .returned (trimV g o c l) ∧ ∃ m, w' = w.drewN m := fun n => by
    have ct := trimL_any g o (zrK l l.length) c (l.take (zrK l l.length)) (w.drewN n) ((hv.no ((Kp.refl _ _).drewN _)).take _ hle) hzr hlast hm
    rw [← hV.out] at ct
    exact ct.mono fun _ _ ⟨a, b⟩ => ⟨a, n, b.symm⟩
  clear hV hv hz h0 hzr hlast
  generalize zrK l l.length = z at *
  generalize trimV g o c l = tv at *
  go_enter Tryd.func28, Tryd.ntmps28
  go_wp2_with fail
  go_quiet ((first | (go_at_call 39; exact cq1 _) | (go_at_call 38; exact cq2 _)))
  go_wp2
  go_ret
  exact ⟨rfl, _, rfl⟩
theorem trimV_len (g o c : Nat) (l : List UInt8) (hz : ¬ zeroS l) : ∃ A n k, trimV g o c l = .slice A n k ∧ 0 < n := by
  refine ⟨_, _, _, rfl, ?_⟩
  have hzr : 0 < zrK l l.length := by
    rcases Nat.eq_zero_or_pos (zrK l l.length) with h | h
    · exact absurd ((zrK_zero l l.length (Nat.le_refl _)).1 h) (by rwa [List.take_length])
    · exact h
  have hlast : (l.take (zrK l l.length)).getD (zrK l l.length - 1) 0 ≠ 0 := by
    have := zrK_last l l.length hzr
    rw [List.getD_eq_getElem?_getD] at this ⊢
    rwa [List.getElem?_take_of_lt (by omega)]
  generalize zrK l l.length = z at *
  have key : ∀ d, d ≤ z → 0 < d → zlK (l.take z) z d < z := by
    intro d
    induction d with
    | zero => intro _ h; omega
    | succ d ih =>
      intro hd _
      unfold zlK
      by_cases h0 : (l.take z).getD (z - (d + 1)) 0 = 0
      · rw [if_pos h0]
        rcases Nat.eq_zero_or_pos d with e | e
        · subst e; exact absurd h0 hlast
        · exact ih (by omega) e
      · rw [if_neg h0]; omega
  have := key z (Nat.le_refl _) hzr
  omega
end Go.Proofs.YthncnkkpfcbkfaaDoor
