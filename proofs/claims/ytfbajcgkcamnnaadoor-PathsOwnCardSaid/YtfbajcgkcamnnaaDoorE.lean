/- The reference's Split, Valid, Depth, by contracts. -/
import Derived.Test.YtfbajcgkcamnnaaDoorD
namespace Go.Proofs.YtfbajcgkcamnnaaDoor
open Go Go.RowKit Go.PlainAid

theorem own_kp {w w' : World} {base : Nat} {e : TypeId} {size n : Nat} {v : Value} {xs : List Value} {M : Nat → Prop} (h : w.ownsRow base e size v n xs) (hk : Kp M w w') (hm : ∀ g, v.ownBlock = some g → ¬ M g) : w'.ownsRow base e size v n xs := by
  refine ⟨h.1, ?_⟩
  rcases h.2 with hn | ⟨g, cap, cur, rfl, hb, hgg, rest⟩
  · exact .inl hn
  · exact .inr ⟨g, cap, cur, rfl, hb, (hk.block g (Array.getElem?_eq_some_iff.1 hgg).1 (hm g rfl)).trans hgg, rest⟩
theorem own_arg {w : World} {B : Nat} {v : Value} {L : List ByteArray} {n : Nat} (hown : w.ownsRow B 9 1 v n (L.map Value.string)) : ArgStrs w v L := by
  have hl : L.length = n := by have := hown.1; simp at this; omega
  subst hl
  rcases hown.2 with ⟨rfl, h0⟩ | ⟨g, cap, cur, rfl, hb, hh, h1, h2, h3, h4⟩
  · exact ⟨Option.none, 0, by rw [h0], by omega, fun hx => absurd (List.eq_nil_of_length_eq_zero (by simp [h0])) hx⟩
  · refine ⟨_, cap, rfl, by omega, fun hx => ⟨g, 0, rfl, fun j v hv => ?_⟩⟩
    have := hown.cells (g := g) rfl j v hv
    rwa [Addr.add_mid] at this

/-- the reference's answer -/
def RSplit (w w' : World) (l : Bytes) (e : Ending) : Prop :=
  Kp No w w' ∧ match path l with
  | none => e = .returned (.tuple #[.slice none 0 0, .int .i64 10])
  | some P => ∃ v D, e = .returned (.tuple #[v, .int .i64 0]) ∧ tx D = P ∧ ArgStrs w' v D

/-- the loop's state: k letters looked at, f where the piece begins -/
def RInv (l : Bytes) (D : List ByteArray) (f k : Nat) : Prop :=
  (tx D).all segB = true ∧ D.length ≤ 4 ∧ ((f ≤ k ∧ k ≤ l.length ∧ tx D ++ segs (l.drop f) = segs l ∧ (47 : UInt8) ∉ (l.drop f).take (k - f)) ∨ (k = l.length + 1 ∧ f = k ∧ tx D = segs l))

theorem rinv_go {l : Bytes} {D : List ByteArray} {f k : Nat} (h : RInv l D f k) (hk : k < l.length) (hc : l[k] ≠ 47) : RInv l D f (k + 1) := by
  obtain ⟨h1, h2, h3 | h3⟩ := h
  · obtain ⟨h3, h4, h5, h6⟩ := h3
    refine ⟨h1, h2, .inl ⟨by omega, by omega, h5, ?_⟩⟩
    have : k + 1 - f = (k - f) + 1 := by omega
    rw [this, List.take_succ_eq_append_getElem (by simp; omega)]
    simp only [List.mem_append, List.mem_singleton, not_or]
    refine ⟨h6, fun e => hc ?_⟩
    rw [List.getElem_drop] at e
    have e2 : f + (k - f) = k := by omega
    simp only [e2] at e
    exact e.symm
  · omega
/-- the piece at its end -/
theorem rinv_piece {l : Bytes} {D : List ByteArray} {f k : Nat} (h : RInv l D f k) (hk : k ≤ l.length) (hc : k = l.length ∨ ∃ h : k < l.length, l[k] = 47) :
    f ≤ k ∧ ∃ R, segs l = tx D ++ (l.drop f).take (k - f) :: R ∧ ((k = l.length ∧ R = []) ∨ (k < l.length ∧ R = segs (l.drop (k + 1)))) := by
  obtain ⟨h1, h2, h3 | h3⟩ := h
  · obtain ⟨h3, h4, h5, h6⟩ := h3
    refine ⟨h3, ?_⟩
    rcases hc with rfl | ⟨hlt, hc⟩
    · refine ⟨[], ?_, .inl ⟨rfl, rfl⟩⟩
      have e : (l.drop f).take (l.length - f) = l.drop f := List.take_of_length_le (by simp)
      rw [e] at h6 ⊢
      rw [← h5, segs_none h6]
    · refine ⟨segs (l.drop (k + 1)), ?_, .inr ⟨hlt, rfl⟩⟩
      have e : l.drop f = (l.drop f).take (k - f) ++ 47 :: l.drop (k + 1) := by
        conv => lhs; rw [← List.take_append_drop (k - f) (l.drop f)]
        rw [List.drop_drop, show f + (k - f) = k by omega, List.drop_eq_getElem_cons hlt, hc]
      rw [← h5]
      conv => lhs; rw [e]
      rw [segs_append _ h6]
  · omega
theorem rinv_next {l : Bytes} {D : List ByteArray} {f k : Nat} {x : ByteArray} (h : RInv l D f k) (hk : k ≤ l.length) (hc : k = l.length ∨ ∃ h : k < l.length, l[k] = 47)
    (hx : x.data.toList = (l.drop f).take (k - f)) (hs : segB x.data.toList = true) (hD : D.length ≠ 4) : RInv l (D ++ [x]) (k + 1) (k + 1) := by
  obtain ⟨hf, R, e, hR⟩ := rinv_piece h hk hc
  obtain ⟨h1, h2, _⟩ := h
  have ht : tx (D ++ [x]) = tx D ++ [(l.drop f).take (k - f)] := by simp [tx, hx]
  refine ⟨by rw [ht, List.all_append, h1, ← hx]; simp [hs], by simp; omega, ?_⟩
  rcases hR with ⟨rfl, rfl⟩ | ⟨hlt, rfl⟩
  · exact .inr ⟨rfl, rfl, by rw [ht, e]⟩
  · exact .inl ⟨Nat.le_refl _, by omega, by rw [ht, e]; simp, by simp⟩
/-- a bad piece, or one too many: no path -/
theorem rinv_bad {l : Bytes} {D : List ByteArray} {f k : Nat} (hl : l ≠ []) (h : RInv l D f k) (hk : k ≤ l.length) (hc : k = l.length ∨ ∃ h : k < l.length, l[k] = 47)
    (hb : D.length = 4 ∨ segB ((l.drop f).take (k - f)) = false) : path l = none := by
  obtain ⟨hf, R, e, hR⟩ := rinv_piece h hk hc
  unfold path
  rw [if_neg hl, if_neg]
  rw [e]
  intro hh
  simp only [Bool.and_eq_true, decide_eq_true_eq, List.all_append, List.all_cons, List.length_append, List.length_cons] at hh
  rcases hb with hb | hb
  · have := hh.2; rw [tx_length, hb] at this; omega
  · rw [hh.1.2.1] at hb; cases hb
theorem rinv_end {l : Bytes} {D : List ByteArray} {f k : Nat} (hl : l ≠ []) (h : RInv l D f k) (hk : l.length < k) : path l = some (tx D) := by
  obtain ⟨h1, h2, h3 | h3⟩ := h
  · omega
  · obtain ⟨_, _, h3⟩ := h3
    unfold path
    rw [if_neg hl, ← h3, if_pos]
    rw [h1, tx_length]; simp [h2]

theorem ext_list (s : ByteArray) (f k : Nat) : (s.extract f k).data.toList = (s.data.toList.drop f).take (k - f) := by
  simp [ByteArray.data_extract, List.drop_take]

theorem Tryd.info9 : (Tryd.prog.info? 9).map (fun i => (i.zero, i.size, i.bytes)) = some (some (.string ⟨#[]⟩), 1, 16) := by kernel_rfl

set_option maxHeartbeats 2000000 in
set_option maxRecDepth 100000 in
theorem rsplit_any (s : ByteArray) (w : World) (hs : s.size < 9223372036854775807) :
    Calls Tryd.prog 14 #[.string s] w fun e w' => RSplit w w' s.data.toList e := by
  have hb := get_bt s
  go_enter Tryd.func14, Tryd.ntmps14
  by_cases h0 : s.data.toList = []
  · obtain rfl := str_nil h0
    go_wp2
    go_ret2
    exact ⟨Kp.refl _ _, _, [], rfl, rfl, ArgStrs.nil _ _ _⟩
  · have n0 := str_ne h0
    have e0 := str_em h0
    have hlen : s.data.toList.length = s.size := by simp
    have H0 := Lib.hid h0; clear h0
    go_wp2
    go_loopw [6, 4, 5] (fun i out fr wr => ∃ k : Nat, k ≤ s.size + 1 ∧ i = .int .i64 k ∧ Kp No w wr ∧ ∃ (D : List ByteArray) (f : Nat), fr = .int .i64 f ∧ wr.ownsRow w.heap.size 9 1 out D.length (D.map Value.string) ∧ RInv s.data.toList D f k) (fun i _ _ _ => s.size + 1 - (intOf i).toNat)
    case atStart => exact ⟨0, Nat.zero_le _, rfl, Kp.refl _ _, [], 0, rfl, World.ownsRow_nil _ _ _ _, rfl, by simp, .inl ⟨Nat.le_refl _, Nat.zero_le _, by simp [tx], by simp⟩⟩
    case round =>
      obtain ⟨k, hk, rfl, hkp, D, f, rfl, hown, hR⟩ := hrel
      have HR := Lib.hid hR; clear hR
      by_cases hle : k ≤ s.size
      · have hk0 : (0 : Int) ≤ (k : Int) := by omega
        have hk1 : (k : Int) ≤ (s.size : Int) := by omega
        by_cases hgo : ∃ h : k < s.data.toList.length, s.data.toList[k] ≠ 47
        · obtain ⟨hl, hne⟩ := hgo
          have hlt : k < s.size := by omega
          have hk2 : (k : Int) < (s.size : Int) := by omega
          have hc : bt s k = (((s.data.toList[k]'hl).toNat : Nat) : Int) := by
            rw [← hb k hlt]; simp [ByteArray.getElem_eq_getElem_data]
          have e47 : (bt s k == 47) = false := by
            rw [hc]
            refine beq_eq_false_iff_ne.2 fun e => hne (UInt8.toNat_inj.1 ?_)
            show (s.data.toList[k]'hl).toNat = 47
            omega
          have HN := Lib.hid (rinv_go HR.out hl hne)
          clear hc hne
          go_wp2
          go_roundw
          case rel => exact ⟨k + 1, by omega, by go_num, hkp, D, f, rfl, hown, HN.out⟩
          case measure => simp [intOf]; omega
        · have hC : k = s.data.toList.length ∨ ∃ h : k < s.data.toList.length, s.data.toList[k] = 47 := by
            by_cases h : k < s.data.toList.length
            · right; exact ⟨h, Classical.byContradiction fun hne => hgo ⟨h, hne⟩⟩
            · left; omega
          have hpc := rinv_piece HR.out (by omega) hC
          have hf := hpc.1
          have hf0 : (0 : Int) ≤ (f : Int) := by omega
          have hf1 : (f : Int) ≤ (k : Int) := by omega
          have hg : (k < s.size ∧ bt s k = 47) ∨ k = s.size := by
            rcases hC with h | ⟨h, e⟩
            · right; omega
            · left
              refine ⟨by omega, ?_⟩
              rw [← hb k (by omega)]
              have : (s[k]'(by omega)) = s.data.toList[k] := by simp [ByteArray.getElem_eq_getElem_data]
              rw [this, e]; rfl
          have HC := Lib.hid hC
          have HB := Lib.hid (rinv_bad H0.out HR.out (by omega) hC)
          clear hC hgo hpc
          have hx := ext_list s f k
          have HX := Lib.hid hx
          have hD4 : D.length ≤ 4 := HR.out.2.1
          have hll := tx_length D
          have HNX : Hid (segB (s.extract f k).data.toList = true → D.length ≠ 4 → RInv s.data.toList (D ++ [s.extract f k]) (k + 1) (k + 1)) := rinv_next HR.out (by omega) HC.out hx
          clear hx
          obtain ⟨A, c, rfl, hcap, _⟩ := own_arg hown
          rcases hg with ⟨hlt, e47⟩ | hkn
          · have hk2 : (k : Int) < (s.size : Int) := by omega
            by_cases h4 : D.length = 4
            · have h4' : ((D.length : Int) == 4) = true := by rw [h4]; rfl
              go_wp2
              go_ret2
              refine ⟨hkp, ?_⟩
              rw [HB.out (.inl h4)]; rfl
            · have h4' : ((D.length : Int) == 4) = false := by simp; omega
              go_wp2_with fail
              refine (segment_any (s.extract f k) _).mono ?_
              rintro e w' ⟨rfl, rfl⟩
              cases hsg : segB (s.extract f k).data.toList with
              | false =>
                have HS := Lib.hid hsg; clear hsg
                go_wp2
                go_ret2
                refine ⟨hkp, ?_⟩
                rw [HB.out (.inr (by rw [← HX.out]; exact HS.out))]; rfl
              | true =>
                have HS := Lib.hid hsg; clear hsg
                go_wp2_with (at_builtin; refine wpList_app1 _ rfl _ _ 24 rfl w.heap.size 9 _ 1 16 Tryd.underlying24 Tryd.info9 rfl (by omega) _ D.length (D.map Value.string) rfl (hown.alloc _) _ _ _ rfl (Bk.new' (by simp) rfl) rfl (by simp [Value.oneCell']) (by omega) (by omega) (by simp; have := hkp.size; omega) ?_; intro g1 cap1 w1 hown1 hk1 hat1)
                have hkp1 : Kp No w w1 := (hkp.alloc _).then_ hk1 fun i hi e => by have := hown.lt i e; omega
                go_roundw
                case rel => exact ⟨k + 1, by omega, by go_num, hkp1, D ++ [s.extract f k], k + 1, by go_num, by simpa using hown1, HNX HS.out h4⟩
                case measure => simp [intOf]; omega
          · have hk2 : ¬ (k : Int) < (s.size : Int) := by omega
            have hk3 : f ≤ s.size := by omega
            clear hkn
            by_cases h4 : D.length = 4
            · have h4' : ((D.length : Int) == 4) = true := by rw [h4]; rfl
              go_wp2
              go_ret2
              refine ⟨hkp, ?_⟩
              rw [HB.out (.inl h4)]; rfl
            · have h4' : ((D.length : Int) == 4) = false := by simp; omega
              go_wp2_with fail
              refine (segment_any (s.extract f k) _).mono ?_
              rintro e w' ⟨rfl, rfl⟩
              cases hsg : segB (s.extract f k).data.toList with
              | false =>
                have HS := Lib.hid hsg; clear hsg
                go_wp2
                go_ret2
                refine ⟨hkp, ?_⟩
                rw [HB.out (.inr (by rw [← HX.out]; exact HS.out))]; rfl
              | true =>
                have HS := Lib.hid hsg; clear hsg
                go_wp2_with (at_builtin; refine wpList_app1 _ rfl _ _ 24 rfl w.heap.size 9 _ 1 16 Tryd.underlying24 Tryd.info9 rfl (by omega) _ D.length (D.map Value.string) rfl (hown.alloc _) _ _ _ rfl (Bk.new' (by simp) rfl) rfl (by simp [Value.oneCell']) (by omega) (by omega) (by simp; have := hkp.size; omega) ?_; intro g1 cap1 w1 hown1 hk1 hat1)
                have hkp1 : Kp No w w1 := (hkp.alloc _).then_ hk1 fun i hi e => by have := hown.lt i e; omega
                go_roundw
                case rel => exact ⟨k + 1, by omega, by go_num, hkp1, D ++ [s.extract f k], k + 1, by go_num, by simpa using hown1, HNX HS.out h4⟩
                case measure => simp [intOf]; omega
      · have hk' : k = s.size + 1 := by omega
        have hk2 : (s.size : Int) < (k : Int) := by omega
        have HE := Lib.hid (rinv_end H0.out HR.out (by omega))
        have HA := Lib.hid (own_arg hown)
        go_wp2
        go_ret2
        refine ⟨hkp, ?_⟩
        rw [HE.out]
        exact ⟨_, D, rfl, rfl, HA.out⟩
end Go.Proofs.YtfbajcgkcamnnaaDoor
