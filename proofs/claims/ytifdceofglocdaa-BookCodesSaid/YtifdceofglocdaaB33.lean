/- Several texts of this claim in one. No condition beyond what each theorem states. -/
import Derived.Test.YtifdceofglocdaaB02
import Derived.Test.YtifdceofglocdaaB06
import Derived.Deep.Cut
import Derived.Deep.CutRange
import Derived.Deep.DeepCutAuto
/- The reference's segment, Split and Valid of paths, by contracts. No condition beyond what each theorem states. -/
namespace Go.Proofs.Ytifdceofglocdaa
open Go Go.RowKit Go.PlainAid

/-- texts as lists of bytes -/
def tx (L : List ByteArray) : List Bytes := L.map (·.data.toList)
theorem tx_length (L : List ByteArray) : (tx L).length = L.length := by simp [tx]
/-- what a slice of texts holds -/
def ArgStrs (w : World) (v : Value) (L : List ByteArray) : Prop := ∃ A c, v = .slice A L.length c ∧ L.length ≤ c ∧ Cs w A (L.map Value.string)
theorem ArgStrs.kp {w w' : World} {v : Value} {L : List ByteArray} {M : Nat → Prop} (h : ArgStrs w v L) (hk : Kp M w w') (hM : ∀ g o n c, v = .slice (some ⟨g, o, none⟩) n c → ¬ M g) : ArgStrs w' v L := by
  obtain ⟨A, c, rfl, hc, h⟩ := h
  refine ⟨A, c, rfl, hc, fun hx => ?_⟩
  obtain ⟨g, o, rfl, hr⟩ := h hx
  exact ⟨g, o, rfl, range_kp hr hk (hM g o _ _ rfl)⟩
theorem ArgStrs.no {w w' : World} {v : Value} {L : List ByteArray} (h : ArgStrs w v L) (hk : Kp No w w') : ArgStrs w' v L := h.kp hk fun _ _ _ _ _ m => m
theorem ArgStrs.nil (w : World) (A : Option Addr) (c : Nat) : ArgStrs w (.slice A 0 c) [] := ⟨A, c, rfl, Nat.zero_le _, fun h => absurd rfl h⟩


theorem take_all_okC {l : Bytes} {k : Nat} (hk : k < l.length) : (l.take (k + 1)).all okC = ((l.take k).all okC && okC l[k]) := by
  rw [List.take_succ_eq_append_getElem hk, List.all_append]; simp

set_option maxRecDepth 100000 in
theorem segment_any (s : ByteArray) (w : World) :
    Calls Try.prog 106 #[.string s] w fun e w' => e = .returned (.bool (segB s.data.toList)) ∧ w' = w := by
  have hb := get_bt s
  go_enter Try.func106, Try.ntmps106
  by_cases h1 : s.size < 1
  · have HS := Lib.hid (show segB s.data.toList = false by unfold segB; have : s.data.toList.length = s.size := by simp
                                                           rw [decide_eq_false (by omega)]; simp)
    have h1' : (s.size : Int) < 1 := by omega
    go_wp2
    go_ret
    exact ⟨ret_bool rfl HS.out.symm, rfl⟩
  · by_cases h6 : 6 < s.size
    · have HS := Lib.hid (show segB s.data.toList = false by unfold segB; have : s.data.toList.length = s.size := by simp
                                                             rw [decide_eq_false (p := s.data.toList.length ≤ 6) (by omega)]; simp)
      have h1' : ¬ (s.size : Int) < 1 := by omega
      have h6' : 6 < (s.size : Int) := by omega
      go_wp2
      go_ret
      exact ⟨ret_bool rfl HS.out.symm, rfl⟩
    · have h1' : ¬ (s.size : Int) < 1 := by omega
      have h6' : ¬ 6 < (s.size : Int) := by omega
      have HS := Lib.hid (show segB s.data.toList = s.data.toList.all okC by
        unfold segB; have : s.data.toList.length = s.size := by simp
        rw [decide_eq_true (by omega), decide_eq_true (by omega)]; simp)
      go_wp2
      go_loopw [3] (fun i wr => ∃ k : Nat, k ≤ s.size ∧ i = .int .i64 k ∧ wr = w ∧ (s.data.toList.take k).all okC = true) (fun i _ => s.size - (intOf i).toNat)
      case atStart => exact ⟨0, Nat.zero_le _, rfl, rfl, by simp⟩
      case round =>
        obtain ⟨k, hk, rfl, rfl, hF⟩ := hrel
        have HF := Lib.hid hF; clear hF
        by_cases hlt : k < s.size
        · have hk0 : (0 : Int) ≤ (k : Int) := by omega
          have hk1 : (k : Int) < (s.size : Int) := by omega
          have hl : k < s.data.toList.length := by simpa using hlt
          have hc : bt s k = (((s.data.toList[k]'hl).toNat : Nat) : Int) := by
            rw [← hb k hlt]; simp [ByteArray.getElem_eq_getElem_data]
          have hT := take_all_okC hl
          have hM : okC (s.data.toList[k]'hl) = false → s.data.toList.all okC = false := fun h => by
            rw [Bool.eq_false_iff]; intro ha
            have := List.all_eq_true.1 ha _ (List.getElem_mem hl)
            rw [h] at this; cases this
          generalize s.data.toList[k]'hl = c at *
          have hok : okC c = true ↔ (97 ≤ c.toNat ∧ c.toNat ≤ 122) ∨ (48 ≤ c.toNat ∧ c.toNat ≤ 57) := by simp [okC]
          rcases (by omega : (97 ≤ c.toNat ∧ c.toNat ≤ 122) ∨ (48 ≤ c.toNat ∧ c.toNat ≤ 57) ∨ c.toNat < 48 ∨ (57 < c.toNat ∧ c.toNat < 97) ∨ 122 < c.toNat) with ⟨c1, c2⟩ | ⟨c1, c2⟩ | c1 | ⟨c1, c2⟩ | c1
          · have f1 : ¬ bt s k < 97 := by omega
            have f2 : ¬ 122 < bt s k := by omega
            have HT := Lib.hid (hT.trans (by rw [HF.out, hok.2 (by omega)]))
            clear hc hok c1 c2 hM hT
            go_wp2
            go_roundw
            case rel => exact ⟨k + 1, by omega, by go_num, by trivial, HT.out⟩
            case measure => simp [intOf]; omega
          · have f1 : bt s k < 97 := by omega
            have f2 : ¬ bt s k < 48 := by omega
            have f3 : ¬ 57 < bt s k := by omega
            have HT := Lib.hid (hT.trans (by rw [HF.out, hok.2 (by omega)]))
            clear hc hok c1 c2 hM hT
            go_wp2
            go_roundw
            case rel => exact ⟨k + 1, by omega, by go_num, by trivial, HT.out⟩
            case measure => simp [intOf]; omega
          · have f1 : bt s k < 97 := by omega
            have f2 : bt s k < 48 := by omega
            have HX := Lib.hid (hM (by rw [Bool.eq_false_iff]; intro h; have := hok.1 h; omega))
            clear hc hok c1 hM hT
            go_wp2
            go_ret
            exact ⟨ret_bool rfl (by rw [HS.out, HX.out]), rfl⟩
          · have f1 : bt s k < 97 := by omega
            have f2 : ¬ bt s k < 48 := by omega
            have f3 : 57 < bt s k := by omega
            have HX := Lib.hid (hM (by rw [Bool.eq_false_iff]; intro h; have := hok.1 h; omega))
            clear hc hok c1 c2 hM hT
            go_wp2
            go_ret
            exact ⟨ret_bool rfl (by rw [HS.out, HX.out]), rfl⟩
          · have f1 : ¬ bt s k < 97 := by omega
            have f2 : 122 < bt s k := by omega
            have f4 : ¬ bt s k < 48 := by omega
            have f3 : 57 < bt s k := by omega
            have HX := Lib.hid (hM (by rw [Bool.eq_false_iff]; intro h; have := hok.1 h; omega))
            clear hc hok c1 hM hT
            go_wp2
            go_ret
            exact ⟨ret_bool rfl (by rw [HS.out, HX.out]), rfl⟩
        · have hk' : k = s.size := by omega
          have HX := Lib.hid (show s.data.toList.all okC = true by have := HF.out; rwa [List.take_of_length_le (by simp; omega)] at this)
          go_wp2
          go_ret
          exact ⟨ret_bool rfl (by rw [HS.out, HX.out]), rfl⟩

theorem own_arg {w : World} {B : Nat} {v : Value} {L : List ByteArray} {n : Nat} (hown : w.ownsRow B 9 1 v n (L.map Value.string)) : ArgStrs w v L := by
  have hl : L.length = n := by have := hown.1; simp at this; omega
  subst hl
  rcases hown.2 with ⟨rfl, h0⟩ | ⟨g, cap, cur, rfl, hb, hh, h1, h2, h3, h4⟩
  · exact ⟨Option.none, 0, by rw [h0], by omega, fun hx => absurd (List.eq_nil_of_length_eq_zero (by simp [h0])) hx⟩
  · refine ⟨_, cap, rfl, by omega, fun hx => ⟨g, 0, rfl, fun j v hv => ?_⟩⟩
    have := hown.cells (g := g) rfl j v hv
    rwa [Addr.add_mid] at this

/-- the reference's answer -/
def RSplit (w w' : World) (l : Bytes) (e : Ending) : Prop :=
  Kp No w w' ∧ match path l with
  | none => e = .returned (.tuple #[.slice none 0 0, .int .i64 10])
  | some P => ∃ v D, e = .returned (.tuple #[v, .int .i64 0]) ∧ tx D = P ∧ ArgStrs w' v D

/-- the loop's state: k letters looked at, f where the piece begins -/
def RInv (l : Bytes) (D : List ByteArray) (f k : Nat) : Prop :=
  (tx D).all segB = true ∧ D.length ≤ 4 ∧ ((f ≤ k ∧ k ≤ l.length ∧ tx D ++ segs (l.drop f) = segs l ∧ (47 : UInt8) ∉ (l.drop f).take (k - f)) ∨ (k = l.length + 1 ∧ f = k ∧ tx D = segs l))

theorem rinv_go {l : Bytes} {D : List ByteArray} {f k : Nat} (h : RInv l D f k) (hk : k < l.length) (hc : l[k] ≠ 47) : RInv l D f (k + 1) := by
  obtain ⟨h1, h2, h3 | h3⟩ := h
  · obtain ⟨h3, h4, h5, h6⟩ := h3
    refine ⟨h1, h2, .inl ⟨by omega, by omega, h5, ?_⟩⟩
    have : k + 1 - f = (k - f) + 1 := by omega
    rw [this, List.take_succ_eq_append_getElem (by simp; omega)]
    simp only [List.mem_append, List.mem_singleton, not_or]
    refine ⟨h6, fun e => hc ?_⟩
    rw [List.getElem_drop] at e
    have e2 : f + (k - f) = k := by omega
    simp only [e2] at e
    exact e.symm
  · omega
/-- the piece at its end -/
theorem rinv_piece {l : Bytes} {D : List ByteArray} {f k : Nat} (h : RInv l D f k) (hk : k ≤ l.length) (hc : k = l.length ∨ ∃ h : k < l.length, l[k] = 47) :
    f ≤ k ∧ ∃ R, segs l = tx D ++ (l.drop f).take (k - f) :: R ∧ ((k = l.length ∧ R = []) ∨ (k < l.length ∧ R = segs (l.drop (k + 1)))) := by
  obtain ⟨h1, h2, h3 | h3⟩ := h
  · obtain ⟨h3, h4, h5, h6⟩ := h3
    refine ⟨h3, ?_⟩
    rcases hc with rfl | ⟨hlt, hc⟩
    · refine ⟨[], ?_, .inl ⟨rfl, rfl⟩⟩
      have e : (l.drop f).take (l.length - f) = l.drop f := List.take_of_length_le (by simp)
      rw [e] at h6 ⊢
      rw [← h5, segs_none h6]
    · refine ⟨segs (l.drop (k + 1)), ?_, .inr ⟨hlt, rfl⟩⟩
      have e : l.drop f = (l.drop f).take (k - f) ++ 47 :: l.drop (k + 1) := by
        conv => lhs; rw [← List.take_append_drop (k - f) (l.drop f)]
        rw [List.drop_drop, show f + (k - f) = k by omega, List.drop_eq_getElem_cons hlt, hc]
      rw [← h5]
      conv => lhs; rw [e]
      rw [segs_append _ h6]
  · omega
theorem rinv_next {l : Bytes} {D : List ByteArray} {f k : Nat} {x : ByteArray} (h : RInv l D f k) (hk : k ≤ l.length) (hc : k = l.length ∨ ∃ h : k < l.length, l[k] = 47)
    (hx : x.data.toList = (l.drop f).take (k - f)) (hs : segB x.data.toList = true) (hD : D.length ≠ 4) : RInv l (D ++ [x]) (k + 1) (k + 1) := by
  obtain ⟨hf, R, e, hR⟩ := rinv_piece h hk hc
  obtain ⟨h1, h2, _⟩ := h
  have ht : tx (D ++ [x]) = tx D ++ [(l.drop f).take (k - f)] := by simp [tx, hx]
  refine ⟨by rw [ht, List.all_append, h1, ← hx]; simp [hs], by simp; omega, ?_⟩
  rcases hR with ⟨rfl, rfl⟩ | ⟨hlt, rfl⟩
  · exact .inr ⟨rfl, rfl, by rw [ht, e]⟩
  · exact .inl ⟨Nat.le_refl _, by omega, by rw [ht, e]; simp, by simp⟩
/-- a bad piece, or one too many: no path -/
theorem rinv_bad {l : Bytes} {D : List ByteArray} {f k : Nat} (hl : l ≠ []) (h : RInv l D f k) (hk : k ≤ l.length) (hc : k = l.length ∨ ∃ h : k < l.length, l[k] = 47)
    (hb : D.length = 4 ∨ segB ((l.drop f).take (k - f)) = false) : path l = none := by
  obtain ⟨hf, R, e, hR⟩ := rinv_piece h hk hc
  unfold path
  rw [if_neg hl, if_neg]
  rw [e]
  intro hh
  simp only [Bool.and_eq_true, decide_eq_true_eq, List.all_append, List.all_cons, List.length_append, List.length_cons] at hh
  rcases hb with hb | hb
  · have := hh.2; rw [tx_length, hb] at this; omega
  · rw [hh.1.2.1] at hb; cases hb
theorem rinv_end {l : Bytes} {D : List ByteArray} {f k : Nat} (hl : l ≠ []) (h : RInv l D f k) (hk : l.length < k) : path l = some (tx D) := by
  obtain ⟨h1, h2, h3 | h3⟩ := h
  · omega
  · obtain ⟨_, _, h3⟩ := h3
    unfold path
    rw [if_neg hl, ← h3, if_pos]
    rw [h1, tx_length]; simp [h2]

theorem ext_list (s : ByteArray) (f k : Nat) : (s.extract f k).data.toList = (s.data.toList.drop f).take (k - f) := by
  simp [ByteArray.data_extract]

theorem Try.infoStr : (Try.prog.info? 9).map (fun i => (i.zero, i.size, i.bytes)) = some (some (.string ⟨#[]⟩), 1, 16) := by kernel_rfl

set_option maxHeartbeats 2000000 in
set_option maxRecDepth 100000 in
theorem rsplit_any (s : ByteArray) (w : World) (hs : s.size < 9223372036854775807) :
    Calls Try.prog 96 #[.string s] w fun e w' => RSplit w w' s.data.toList e := by
  have hb := get_bt s
  go_enter Try.func96, Try.ntmps96
  by_cases h0 : s.data.toList = []
  · obtain rfl := str_nil h0
    go_wp2
    go_ret2
    exact ⟨Kp.refl _ _, _, [], rfl, rfl, ArgStrs.nil _ _ _⟩
  · have n0 := str_ne h0
    have e0 := str_em h0
    have hlen : s.data.toList.length = s.size := by simp
    have H0 := Lib.hid h0; clear h0
    go_wp2
    go_loopw [6, 4, 5] (fun i out fr wr => ∃ k : Nat, k ≤ s.size + 1 ∧ i = .int .i64 k ∧ Kp No w wr ∧ ∃ (D : List ByteArray) (f : Nat), fr = .int .i64 f ∧ wr.ownsRow w.heap.size 9 1 out D.length (D.map Value.string) ∧ RInv s.data.toList D f k) (fun i _ _ _ => s.size + 1 - (intOf i).toNat)
    case atStart => exact ⟨0, Nat.zero_le _, rfl, Kp.refl _ _, [], 0, rfl, World.ownsRow_nil _ _ _ _, rfl, by simp, .inl ⟨Nat.le_refl _, Nat.zero_le _, by simp [tx], by simp⟩⟩
    case round =>
      obtain ⟨k, hk, rfl, hkp, D, f, rfl, hown, hR⟩ := hrel
      have HR := Lib.hid hR; clear hR
      by_cases hle : k ≤ s.size
      · have hk0 : (0 : Int) ≤ (k : Int) := by omega
        have hk1 : (k : Int) ≤ (s.size : Int) := by omega
        by_cases hgo : ∃ h : k < s.data.toList.length, s.data.toList[k] ≠ 47
        · obtain ⟨hl, hne⟩ := hgo
          have hlt : k < s.size := by omega
          have hk2 : (k : Int) < (s.size : Int) := by omega
          have hc : bt s k = (((s.data.toList[k]'hl).toNat : Nat) : Int) := by
            rw [← hb k hlt]; simp [ByteArray.getElem_eq_getElem_data]
          have e47 : (bt s k == 47) = false := by
            rw [hc]
            refine beq_eq_false_iff_ne.2 fun e => hne (UInt8.toNat_inj.1 ?_)
            show (s.data.toList[k]'hl).toNat = 47
            omega
          have HN := Lib.hid (rinv_go HR.out hl hne)
          clear hc hne
          go_wp2
          go_roundw
          case rel => exact ⟨k + 1, by omega, by go_num, hkp, D, f, rfl, hown, HN.out⟩
          case measure => simp [intOf]; omega
        · have hC : k = s.data.toList.length ∨ ∃ h : k < s.data.toList.length, s.data.toList[k] = 47 := by
            by_cases h : k < s.data.toList.length
            · right; exact ⟨h, Classical.byContradiction fun hne => hgo ⟨h, hne⟩⟩
            · left; omega
          have hpc := rinv_piece HR.out (by omega) hC
          have hf := hpc.1
          have hf0 : (0 : Int) ≤ (f : Int) := by omega
          have hf1 : (f : Int) ≤ (k : Int) := by omega
          have hg : (k < s.size ∧ bt s k = 47) ∨ k = s.size := by
            rcases hC with h | ⟨h, e⟩
            · right; omega
            · left
              refine ⟨by omega, ?_⟩
              rw [← hb k (by omega)]
              have : (s[k]'(by omega)) = s.data.toList[k] := by simp [ByteArray.getElem_eq_getElem_data]
              rw [this, e]; rfl
          have HC := Lib.hid hC
          have HB := Lib.hid (rinv_bad H0.out HR.out (by omega) hC)
          clear hC hgo hpc
          have hx := ext_list s f k
          have HX := Lib.hid hx
          have hD4 : D.length ≤ 4 := HR.out.2.1
          have hll := tx_length D
          have HNX : Hid (segB (s.extract f k).data.toList = true → D.length ≠ 4 → RInv s.data.toList (D ++ [s.extract f k]) (k + 1) (k + 1)) := rinv_next HR.out (by omega) HC.out hx
          clear hx
          obtain ⟨A, c, rfl, hcap, _⟩ := own_arg hown
          rcases hg with ⟨hlt, e47⟩ | hkn
          · have hk2 : (k : Int) < (s.size : Int) := by omega
            by_cases h4 : D.length = 4
            · have h4' : ((D.length : Int) == 4) = true := by rw [h4]; rfl
              go_wp2
              go_ret2
              refine ⟨hkp, ?_⟩
              rw [HB.out (.inl h4)]; rfl
            · have h4' : ((D.length : Int) == 4) = false := by simp; omega
              go_wp2_with fail
              refine (segment_any (s.extract f k) _).mono ?_
              rintro e w' ⟨rfl, rfl⟩
              cases hsg : segB (s.extract f k).data.toList with
              | false =>
                have HS := Lib.hid hsg; clear hsg
                go_wp2
                go_ret2
                refine ⟨hkp, ?_⟩
                rw [HB.out (.inr (by rw [← HX.out]; exact HS.out))]; rfl
              | true =>
                have HS := Lib.hid hsg; clear hsg
                go_wp2_with (at_builtin; refine wpList_app1 _ rfl _ _ 127 rfl w.heap.size 9 _ 1 16 Try.underlying127 Try.infoStr rfl (by omega) _ D.length (D.map Value.string) rfl (hown.alloc _) _ _ _ rfl (Bk.new' (by simp) rfl) rfl (by simp [Value.oneCell']) (by omega) (by omega) (by simp; have := hkp.size; omega) ?_; intro g1 cap1 w1 hown1 hk1 hat1)
                have hkp1 : Kp No w w1 := (hkp.alloc _).then_ hk1 fun i hi e => by have := hown.lt i e; omega
                go_roundw
                case rel => exact ⟨k + 1, by omega, by go_num, hkp1, D ++ [s.extract f k], k + 1, by go_num, by simpa using hown1, HNX HS.out h4⟩
                case measure => simp [intOf]; omega
          · have hk2 : ¬ (k : Int) < (s.size : Int) := by omega
            have hk3 : f ≤ s.size := by omega
            clear hkn
            by_cases h4 : D.length = 4
            · have h4' : ((D.length : Int) == 4) = true := by rw [h4]; rfl
              go_wp2
              go_ret2
              refine ⟨hkp, ?_⟩
              rw [HB.out (.inl h4)]; rfl
            · have h4' : ((D.length : Int) == 4) = false := by simp; omega
              go_wp2_with fail
              refine (segment_any (s.extract f k) _).mono ?_
              rintro e w' ⟨rfl, rfl⟩
              cases hsg : segB (s.extract f k).data.toList with
              | false =>
                have HS := Lib.hid hsg; clear hsg
                go_wp2
                go_ret2
                refine ⟨hkp, ?_⟩
                rw [HB.out (.inr (by rw [← HX.out]; exact HS.out))]; rfl
              | true =>
                have HS := Lib.hid hsg; clear hsg
                go_wp2_with (at_builtin; refine wpList_app1 _ rfl _ _ 127 rfl w.heap.size 9 _ 1 16 Try.underlying127 Try.infoStr rfl (by omega) _ D.length (D.map Value.string) rfl (hown.alloc _) _ _ _ rfl (Bk.new' (by simp) rfl) rfl (by simp [Value.oneCell']) (by omega) (by omega) (by simp; have := hkp.size; omega) ?_; intro g1 cap1 w1 hown1 hk1 hat1)
                have hkp1 : Kp No w w1 := (hkp.alloc _).then_ hk1 fun i hi e => by have := hown.lt i e; omega
                go_roundw
                case rel => exact ⟨k + 1, by omega, by go_num, hkp1, D ++ [s.extract f k], k + 1, by go_num, by simpa using hown1, HNX HS.out h4⟩
                case measure => simp [intOf]; omega
      · have hk' : k = s.size + 1 := by omega
        have hk2 : (s.size : Int) < (k : Int) := by omega
        have HE := Lib.hid (rinv_end H0.out HR.out (by omega))
        have HA := Lib.hid (own_arg hown)
        go_wp2
        go_ret2
        refine ⟨hkp, ?_⟩
        rw [HE.out]
        exact ⟨_, D, rfl, rfl, HA.out⟩

theorem RSplit.cases {w w' : World} {l : Bytes} {e : Ending} (h : RSplit w w' l e) : Kp No w w' ∧ ((path l = none ∧ e = .returned (.tuple #[.slice none 0 0, .int .i64 10])) ∨ ∃ P v D, path l = some P ∧ e = .returned (.tuple #[v, .int .i64 0]) ∧ tx D = P ∧ ArgStrs w' v D) := by
  obtain ⟨hk, h⟩ := h
  refine ⟨hk, ?_⟩
  split at h
  · rename_i hp; exact .inl ⟨hp, h⟩
  · rename_i P hp
    obtain ⟨v, D, h1, h2, h3⟩ := h
    exact .inr ⟨P, v, D, hp, h1, h2, h3⟩

theorem rvalid_any (s : ByteArray) (w : World) (hs : s.size < 9223372036854775807) :
    Calls Try.prog 76 #[.string s] w fun e w' => e = .returned (.bool (path s.data.toList).isSome) ∧ Kp No w w' := by
  go_enter Try.func76, Try.ntmps76
  go_wp2_with fail
  refine (rsplit_any _ _ hs).mono ?_
  rintro e w1 hR
  obtain ⟨hk, ⟨hp, rfl⟩ | ⟨P, v, D, hp, rfl, hD, hA⟩⟩ := hR.cases
  · have HP := Lib.hid hp; clear hp hR
    go_wp2
    go_ret
    exact ⟨ret_bool rfl (by rw [HP.out]; rfl), hk⟩
  · have HP := Lib.hid hp; clear hp hR hD hA
    go_wp2
    go_ret
    exact ⟨ret_bool rfl (by rw [HP.out]; rfl), hk⟩

end Go.Proofs.Ytifdceofglocdaa

/- What may be a grant: the document's Grant by contract. No condition beyond what each theorem states. -/
namespace Go.Proofs.Ytifdceofglocdaa
open Go Go.RowKit Go.PlainAid

theorem rcounterB_any (n : Int) (w : World) : Calls Try.prog 78 #[.int .i64 n] w fun e w' => e = .returned (.bool (decide (cntI n))) ∧ w = w' := by
  have HS := Lib.hid (show decide (cntI n) = decide (1 ≤ n ∧ n ≤ 1099511627776) from rfl)
  go_enter Try.func78, Try.ntmps78
  by_cases h1 : 1 ≤ n <;> by_cases h2 : n ≤ 1099511627776
  all_goals
    go_wp2
    go_ret
    exact ⟨ret_bool rfl (by rw [HS.out]; simp [h1, h2]), rfl⟩
theorem rlast_any (v : Value) (L : List Int) (w : World) (hv : ArgInts w v L) (hl : L.length ≤ maxLen) : Calls Try.prog 50 #[v] w fun e w' => e = .returned (.int .i64 (newestS L)) ∧ w = w' := by
  unfold maxLen at hl
  have HV := Lib.hid hv
  obtain ⟨A, c, rfl, _, _⟩ := hv
  by_cases h0 : L.length = 0
  · have HX := Lib.hid (show newestS L = 0 by rw [List.eq_nil_of_length_eq_zero h0]; rfl)
    rw [h0]
    clear h0
    go_enter Try.func50, Try.ntmps50
    go_wp2
    go_ret
    exact ⟨ret_int rfl HX.out.symm, rfl⟩
  · obtain ⟨k, hk⟩ : ∃ k, L.length = k + 1 := ⟨L.length - 1, by omega⟩
    have hlt : k < L.length := by omega
    have hl' : k + 1 ≤ 9223372036854775807 := by omega
    obtain ⟨g, o, c', e1, hxx⟩ := HV.out.at_ hlt
    have hx := hxx k _ (List.getElem?_eq_getElem hlt)
    clear hxx
    injection e1 with e1 _ e1c
    subst e1 e1c
    have HX := Lib.hid (newestS_last hk (List.getElem?_eq_getElem hlt))
    generalize L[k] = x at *
    rw [hk]
    have e0 : ((k + 1 : Nat) : Int) - 1 = (k : Int) := by omega
    have hk0 : (0 : Int) ≤ (k : Int) := by omega
    have hk1 : (k : Int) < ((k + 1 : Nat) : Int) := by omega
    clear h0 hk hlt hl
    go_enter Try.func50, Try.ntmps50
    go_wp2
    go_ret
    exact ⟨ret_int rfl HX.out.symm, rfl⟩
set_option maxRecDepth 100000 in
set_option maxHeartbeats 4000000 in
theorem rGrant_any (p : GP) (W : World) (hs : ArgInts W p.2 p.1.stamp) (hsh : ShG maxLen p.1) (hp63 : p.1.path.length < 9223372036854775807) :
    Calls Try.prog 49 #[.agg (pC p).toArray] W fun e w' => e = .returned (.bool (decide (mayG p.1))) ∧ Kp No W w' := by
  obtain ⟨⟨gid, hol, path, mode, st, term⟩, sv⟩ := p
  obtain ⟨A, c, rfl, _⟩ : ∃ A c, sv = .slice A st.length c ∧ st.length ≤ c := by obtain ⟨A, c, e, hc, _⟩ := hs; exact ⟨A, c, e, hc⟩
  have hs : ArgInts W (.slice A st.length c) st := hs
  have hl : st.length ≤ maxLen := hsh.2
  have hp63 : path.length < 9223372036854775807 := hp63
  clear hsh
  have kA : Kp No W (W.alloc (.cells (pC (⟨gid, hol, path, mode, st, term⟩, .slice A st.length c)).toArray 30)) := (Kp.refl No W).alloc _
  have HB := Lib.hid (show Bk (W.alloc (.cells (pC (⟨gid, hol, path, mode, st, term⟩, .slice A st.length c)).toArray 30)) W.heap.size 30 (pC (⟨gid, hol, path, mode, st, term⟩, .slice A st.length c)) from Bk.new' rfl rfl)
  have pv := fun W2 => rvalid_any ⟨path.toArray⟩ W2 (by simpa [ByteArray.size] using hp63)
  have sv := fun W2 (k : Kp No W W2) => rvalidS_any _ st W2 (hs.no k) hl
  have nv := fun W2 (k : Kp No W W2) => rlast_any _ st W2 (hs.no k) hl
  have HM := Lib.hid (show mayG ⟨gid, hol, path, mode, st, term⟩ ↔ cntI gid ∧ (0 ≤ hol ∧ hol < 8) ∧ (Go.Proofs.Ytifdceofglocdaa.path path).isSome = true ∧ modeI mode ∧ (validS st = true ∧ st ≠ []) ∧ gid ≤ newestS st ∧ termI term by
    unfold mayG nodeI vpP
    exact ⟨fun ⟨a1, a2, a3, a4, a5, a6, a7, a8⟩ => ⟨a1, a2, a3, a4, ⟨a5, a6⟩, a7, a8⟩, fun ⟨a1, a2, a3, a4, ⟨a5, a6⟩, a7, a8⟩ => ⟨a1, a2, a3, a4, a5, a6, a7, a8⟩⟩)
  obtain ⟨R, hR⟩ : ∃ R, R = decide (mayG ⟨gid, hol, path, mode, st, term⟩) := ⟨_, rfl⟩
  rw [← hR]
  have HR := Lib.hid hR; clear hR
  obtain ⟨V, hV⟩ : ∃ V, V = (Go.Proofs.Ytifdceofglocdaa.path path).isSome := ⟨_, rfl⟩
  have HV : Hid (V = true ↔ (Go.Proofs.Ytifdceofglocdaa.path path).isSome = true) := Lib.hid (by rw [hV])
  have pv : ∀ W2, Calls Try.prog 76 #[.string ⟨path.toArray⟩] W2 fun e w' => e = .returned (.bool V) ∧ Kp No W2 w' := fun W2 => (pv W2).mono fun e w' ⟨h1, h2⟩ => ⟨by rw [hV]; exact h1, h2⟩
  clear hV
  obtain ⟨S, hS⟩ : ∃ S, S = decide (validS st = true ∧ st ≠ []) := ⟨_, rfl⟩
  have HS : Hid (S = true ↔ validS st = true ∧ st ≠ []) := Lib.hid (by rw [hS, decide_eq_true_iff])
  have HSL := Lib.hid (show S = if validS st = true then decide (0 < (st.length : Int)) else false by
    rw [hS]
    cases st with
    | nil => simp
    | cons a l => simp)
  clear hS
  generalize newestS st = nw at *
  have HK := Lib.hid kA
  simp only [pC] at kA HB HK ⊢
  go_enter Try.func49, Try.ntmps49
  go_wp2_with fail
  refine (pv _).mono ?_
  rintro e w1 ⟨rfl, k1⟩
  have K1 := Lib.hid (kA.trans k1)
  have z4 : w1.cell? ⟨W.heap.size, 4, none⟩ = some (.slice A st.length c) := (HB.out.no k1).cell 4
  go_upto_region 2 with (fail)
  go_cut [4] (fun s wx => s = .bool S ∧ w1 = wx)
  case first =>
    have sv1 := sv w1 K1.out
    have hsl := HSL.out
    cases hvs : validS st with
    | false =>
      rw [hvs] at sv1 hsl
      have HSX := Lib.hid (show S = false by simpa using hsl); clear hsl hvs sv nv pv
      go_wp2_with (refine sv1.mono ?_; rintro e w' ⟨rfl, rfl⟩)
      go_meet
      exact ⟨by rw [HSX.out], by first | trivial | rfl⟩
    | true =>
      rw [hvs] at sv1 hsl
      have HSX := Lib.hid (show S = decide (0 < (st.length : Int)) by simpa using hsl); clear hsl hvs sv nv pv
      go_wp2_with (refine sv1.mono ?_; rintro e w' ⟨rfl, rfl⟩)
      go_meet
      exact ⟨by rw [HSX.out]; simp, by first | trivial | rfl⟩
  case rest =>
  obtain ⟨rfl, rfl⟩ := hcut
  have z0 : w1.cell? ⟨W.heap.size, 0, none⟩ = some (.int .i64 gid) := (HB.out.no k1).cell 0
  have z1 : w1.cell? ⟨W.heap.size, 1, none⟩ = some (.int .i64 hol) := (HB.out.no k1).cell 1
  have z3 : w1.cell? ⟨W.heap.size, 3, none⟩ = some (.int .i64 mode) := (HB.out.no k1).cell 3
  have z5 : w1.cell? ⟨W.heap.size, 5, none⟩ = some (.int .i64 term) := (HB.out.no k1).cell 5
  have kW := K1.out
  clear kA k1 pv sv
  by_cases b0 : (cntI gid)
  · have P0 := Lib.hid b0; have H0 := Lib.hid (show decide (cntI gid) = true by rw [decide_eq_true_iff]; exact P0.out); clear b0
    by_cases b1 : 0 ≤ hol
    · have P1 := Lib.hid b1
      by_cases b2 : hol < 8
      · have P2 := Lib.hid b2
        cases V with
        | true =>
          by_cases b4 : (modeI mode)
          · have P4 := Lib.hid b4; have H4 := Lib.hid (show decide (modeI mode) = true by rw [decide_eq_true_iff]; exact P4.out); clear b4
            cases S with
            | true =>
              by_cases b6 : gid ≤ nw
              · have P6 := Lib.hid b6
                by_cases b7 : (termI term)
                · have P7 := Lib.hid b7; have H7 := Lib.hid (show decide (termI term) = true by rw [decide_eq_true_iff]; exact P7.out); clear b7
                  have HX := Lib.hid (show R = true by rw [HR.out, decide_eq_true_iff, HM.out]; exact ⟨P0.out, ⟨P1.out, P2.out⟩, HV.out.1 rfl, P4.out, HS.out.1 rfl, P6.out, P7.out⟩)
                  go_wp2
                  go_quiet (first
                      | (go_at_call 78; exact Calls.quiet_of_same ((rcounterB_any _ _).mono fun _ _ ⟨h1, h2⟩ => ⟨by rw [H0.out] at h1; exact h1, h2.symm⟩))
                      | (go_at_call 79; exact Calls.quiet_of_same ((rmode_any _ _).mono fun _ _ ⟨h1, h2⟩ => ⟨by rw [H4.out] at h1; exact h1, h2.symm⟩))
                      | (go_at_call 50; exact Calls.quiet_of_same ((nv _ (by with_reducible repeat (first | assumption | exact Kp.refl _ _ | refine Kp.drew ?_ | refine Kp.drewN ?_ _))).mono fun _ _ ⟨h1, h2⟩ => ⟨h1, h2.symm⟩))
                      | (go_at_call 48; exact Calls.quiet_of_same ((rlegal_any _ _).mono fun _ _ ⟨h1, h2⟩ => ⟨by rw [H7.out] at h1; exact h1, h2.symm⟩))
                      | fail)
                  go_wp2
                  go_ret
                  exact ⟨ret_bool rfl (by rw [HX.out]), kW.drewN _⟩
                · have N7 := Lib.hid b7; have H7 := Lib.hid (show decide (termI term) = false by rw [decide_eq_false_iff_not]; exact N7.out); clear b7
                  have HX := Lib.hid (show R = false by rw [HR.out, decide_eq_false_iff_not, HM.out]; rintro ⟨q0, ⟨q1, q2⟩, q3, q4, q5, q6, q7⟩; exact N7.out q7)
                  go_wp2
                  go_quiet (first
                      | (go_at_call 78; exact Calls.quiet_of_same ((rcounterB_any _ _).mono fun _ _ ⟨h1, h2⟩ => ⟨by rw [H0.out] at h1; exact h1, h2.symm⟩))
                      | (go_at_call 79; exact Calls.quiet_of_same ((rmode_any _ _).mono fun _ _ ⟨h1, h2⟩ => ⟨by rw [H4.out] at h1; exact h1, h2.symm⟩))
                      | (go_at_call 50; exact Calls.quiet_of_same ((nv _ (by with_reducible repeat (first | assumption | exact Kp.refl _ _ | refine Kp.drew ?_ | refine Kp.drewN ?_ _))).mono fun _ _ ⟨h1, h2⟩ => ⟨h1, h2.symm⟩))
                      | (go_at_call 48; exact Calls.quiet_of_same ((rlegal_any _ _).mono fun _ _ ⟨h1, h2⟩ => ⟨by rw [H7.out] at h1; exact h1, h2.symm⟩))
                      | fail)
                  go_wp2
                  go_ret
                  exact ⟨ret_bool rfl (by rw [HX.out]), kW.drewN _⟩
              · have N6 := Lib.hid b6; have d6 : decide (gid ≤ nw) = false := by simpa using N6.out
                clear b6
                have HX := Lib.hid (show R = false by rw [HR.out, decide_eq_false_iff_not, HM.out]; rintro ⟨q0, ⟨q1, q2⟩, q3, q4, q5, q6, q7⟩; exact N6.out q6)
                go_wp2
                go_quiet (first
                    | (go_at_call 78; exact Calls.quiet_of_same ((rcounterB_any _ _).mono fun _ _ ⟨h1, h2⟩ => ⟨by rw [H0.out] at h1; exact h1, h2.symm⟩))
                    | (go_at_call 79; exact Calls.quiet_of_same ((rmode_any _ _).mono fun _ _ ⟨h1, h2⟩ => ⟨by rw [H4.out] at h1; exact h1, h2.symm⟩))
                    | (go_at_call 50; exact Calls.quiet_of_same ((nv _ (by with_reducible repeat (first | assumption | exact Kp.refl _ _ | refine Kp.drew ?_ | refine Kp.drewN ?_ _))).mono fun _ _ ⟨h1, h2⟩ => ⟨h1, h2.symm⟩))
                    | fail)
                go_wp2
                go_ret
                exact ⟨ret_bool rfl (by rw [HX.out]), kW.drewN _⟩
            | false =>
              have HX := Lib.hid (show R = false by rw [HR.out, decide_eq_false_iff_not, HM.out]; rintro ⟨q0, ⟨q1, q2⟩, q3, q4, q5, q6, q7⟩; exact (by have h := HS.out.2 q5; cases h))
              go_wp2
              go_quiet (first
                  | (go_at_call 78; exact Calls.quiet_of_same ((rcounterB_any _ _).mono fun _ _ ⟨h1, h2⟩ => ⟨by rw [H0.out] at h1; exact h1, h2.symm⟩))
                  | (go_at_call 79; exact Calls.quiet_of_same ((rmode_any _ _).mono fun _ _ ⟨h1, h2⟩ => ⟨by rw [H4.out] at h1; exact h1, h2.symm⟩))
                  | fail)
              go_wp2
              go_ret
              exact ⟨ret_bool rfl (by rw [HX.out]), kW.drewN _⟩
          · have N4 := Lib.hid b4; have H4 := Lib.hid (show decide (modeI mode) = false by rw [decide_eq_false_iff_not]; exact N4.out); clear b4
            have HX := Lib.hid (show R = false by rw [HR.out, decide_eq_false_iff_not, HM.out]; rintro ⟨q0, ⟨q1, q2⟩, q3, q4, q5, q6, q7⟩; exact N4.out q4)
            go_wp2
            go_quiet (first
                | (go_at_call 78; exact Calls.quiet_of_same ((rcounterB_any _ _).mono fun _ _ ⟨h1, h2⟩ => ⟨by rw [H0.out] at h1; exact h1, h2.symm⟩))
                | (go_at_call 79; exact Calls.quiet_of_same ((rmode_any _ _).mono fun _ _ ⟨h1, h2⟩ => ⟨by rw [H4.out] at h1; exact h1, h2.symm⟩))
                | fail)
            go_wp2
            go_ret
            exact ⟨ret_bool rfl (by rw [HX.out]), kW.drewN _⟩
        | false =>
          have HX := Lib.hid (show R = false by rw [HR.out, decide_eq_false_iff_not, HM.out]; rintro ⟨q0, ⟨q1, q2⟩, q3, q4, q5, q6, q7⟩; exact (by have h := HV.out.2 q3; cases h))
          go_wp2
          go_quiet (first
              | (go_at_call 78; exact Calls.quiet_of_same ((rcounterB_any _ _).mono fun _ _ ⟨h1, h2⟩ => ⟨by rw [H0.out] at h1; exact h1, h2.symm⟩))
              | fail)
          go_wp2
          go_ret
          exact ⟨ret_bool rfl (by rw [HX.out]), kW.drewN _⟩
      · have N2 := Lib.hid b2; have d2 : decide (hol < 8) = false := by simpa using N2.out
        clear b2
        have HX := Lib.hid (show R = false by rw [HR.out, decide_eq_false_iff_not, HM.out]; rintro ⟨q0, ⟨q1, q2⟩, q3, q4, q5, q6, q7⟩; exact N2.out q2)
        go_wp2
        go_quiet (first
            | (go_at_call 78; exact Calls.quiet_of_same ((rcounterB_any _ _).mono fun _ _ ⟨h1, h2⟩ => ⟨by rw [H0.out] at h1; exact h1, h2.symm⟩))
            | fail)
        go_wp2
        go_ret
        exact ⟨ret_bool rfl (by rw [HX.out]), kW.drewN _⟩
    · have N1 := Lib.hid b1; have d1 : decide (0 ≤ hol) = false := by simpa using N1.out
      clear b1
      have HX := Lib.hid (show R = false by rw [HR.out, decide_eq_false_iff_not, HM.out]; rintro ⟨q0, ⟨q1, q2⟩, q3, q4, q5, q6, q7⟩; exact N1.out q1)
      go_wp2
      go_quiet (first
          | (go_at_call 78; exact Calls.quiet_of_same ((rcounterB_any _ _).mono fun _ _ ⟨h1, h2⟩ => ⟨by rw [H0.out] at h1; exact h1, h2.symm⟩))
          | fail)
      go_wp2
      go_ret
      exact ⟨ret_bool rfl (by rw [HX.out]), kW.drewN _⟩
  · have N0 := Lib.hid b0; have H0 := Lib.hid (show decide (cntI gid) = false by rw [decide_eq_false_iff_not]; exact N0.out); clear b0
    have HX := Lib.hid (show R = false by rw [HR.out, decide_eq_false_iff_not, HM.out]; rintro ⟨q0, ⟨q1, q2⟩, q3, q4, q5, q6, q7⟩; exact N0.out q0)
    go_wp2
    go_quiet (first
        | (go_at_call 78; exact Calls.quiet_of_same ((rcounterB_any _ _).mono fun _ _ ⟨h1, h2⟩ => ⟨by rw [H0.out] at h1; exact h1, h2.symm⟩))
        | fail)
    go_wp2
    go_ret
    exact ⟨ret_bool rfl (by rw [HX.out]), kW.drewN _⟩
end Go.Proofs.Ytifdceofglocdaa
