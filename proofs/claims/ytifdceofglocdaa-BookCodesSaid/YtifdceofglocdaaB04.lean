/- Several texts of this claim in one. No condition beyond what each theorem states. -/
import Derived.Test.YtifdceofglocdaaB03
import Derived.Test.YtifdceofglocdaaB01
import Derived.PlainAid
/- The reader by one word (wire). No condition beyond what each theorem states. -/
namespace Go.Proofs.Ytifdceofglocdaa
open Go Go.RowKit Go.PlainAid

theorem takeN_bad : ∀ (l : List UInt8) (i : Nat), (takeN i l).2.2 ≠ 0 → (takeN i l).1 = 0 ∧ (takeN i l).2.1 = 0
  | [], i, _ => ⟨rfl, rfl⟩
  | c :: r, i, h => by
    unfold takeN at h ⊢
    by_cases h1 : c.toNat < 128
    · rw [if_pos h1] at h ⊢
      by_cases h2 : c.toNat = 0 ∧ 0 < i
      · rw [if_pos h2]; exact ⟨rfl, rfl⟩
      · rw [if_neg h2] at h; exact absurd rfl h
    · rw [if_neg h1] at h ⊢
      by_cases h3 : i = 8
      · rw [if_pos h3]; exact ⟨rfl, rfl⟩
      · rw [if_neg h3] at h ⊢
        generalize takeN (i + 1) r = q at *
        obtain ⟨n, k, e⟩ := q
        simp only at h ⊢
        by_cases h4 : e = 0
        · rw [if_pos h4] at h; exact absurd rfl h
        · rw [if_neg h4]; exact ⟨rfl, rfl⟩
/-- a reader at b in the state s -/
def RdS (w : World) (b : Nat) (s : Rd) : Prop := ∃ v, RdB w b v s.1 s.2 ∧ ∀ k, v.ownBlock = some k → TB w k
theorem RdS.kp {w w' : World} {b : Nat} {s : Rd} {M : Nat → Prop} (h : RdS w b s) (hk : Kp M w w') (h1 : ¬ M b) (h2 : ∀ k, TB w k → ¬ M k) : RdS w' b s := by
  obtain ⟨v, h, ht⟩ := h
  exact ⟨v, h.kp hk h1 (fun g hg => h2 g (ht g hg)), fun k e => (ht k e).kp hk (h2 k (ht k e))⟩
theorem RdS.no {w w' : World} {b : Nat} {s : Rd} (h : RdS w b s) (hk : Kp No w w') : RdS w' b s := h.kp hk (fun m => m) (fun _ _ m => m)
theorem RdS.rdr {w : World} {b : Nat} {s : Rd} (h : RdS w b s) : ∃ cs, Bk w b 114 cs := by obtain ⟨v, h, _⟩ := h; exact ⟨_, h.1⟩
theorem RdS.step {w w' : World} {b : Nat} {s s' : Rd} {v v' : Value} (h : RdB w b v s.1 s.2) (ht : ∀ k, v.ownBlock = some k → TB w k) (hk : Kp (One b) w w') (h' : RdB w' b v' s'.1 s'.2) (hs : SameBlk v v') : RdS w' b s' :=
  ⟨v', h', fun k e => (ht k (hs k e)).kp hk (fun m => by
    have e2 : k = b := m
    subst e2
    exact h'.2.2 e)⟩
theorem rd_num (b : Nat) (s : Rd) (w : World) (h : RdS w b s) (hm : s.1.length ≤ maxLen) :
    Calls Try.prog 61 #[.pointer (some ⟨b, 0, none⟩)] w fun e w' => e = .returned (.int .i64 ((rdNum s).1 : Int)) ∧ RdS w' b (rdNum s).2 ∧ Kp (One b) w w' := by
  obtain ⟨l, err⟩ := s
  by_cases he : err = 0
  · subst he
    obtain ⟨v, h, ht⟩ := h
    refine (rnum_any b v l w h hm).mono ?_
    rintro e w' ⟨rfl, hk, v', h', hs⟩
    obtain ⟨n, k, er, htk⟩ : ∃ n k er, takeN 0 l = (n, k, er) := ⟨_, _, _, rfl⟩
    by_cases h0 : er = 0
    · subst h0
      rw [htk] at h'
      have e1 : rdNum (l, 0) = (n, (l.drop k, 0)) := by unfold rdNum; simp [htk]
      rw [e1, htk]
      exact ⟨rfl, RdS.step (s := (l, 0)) (s' := (l.drop k, 0)) h ht hk h' hs, hk⟩
    · have hb := takeN_bad l 0 (by rw [htk]; exact h0)
      rw [htk] at hb h'
      obtain ⟨rfl, rfl⟩ : n = 0 ∧ k = 0 := hb
      have e1 : rdNum (l, 0) = (0, (l, er)) := by unfold rdNum; simp [htk, h0]
      rw [e1, htk]
      exact ⟨rfl, RdS.step (s := (l, 0)) (s' := (l, er)) h ht hk (by simpa using h') hs, hk⟩
  · have e1 : rdNum (l, err) = (0, (l, err)) := by unfold rdNum; simp [he]
    have h0 := h
    obtain ⟨v, h, ht⟩ := h
    refine (rnum_err b v l err w h he).mono ?_
    rintro e w' ⟨rfl, rfl⟩
    rw [e1]
    exact ⟨rfl, h0, Kp.refl _ _⟩
theorem rd_text (b : Nat) (s : Rd) (most : Nat) (w : World) (h : RdS w b s) (hm : s.1.length ≤ maxLen) :
    Calls Try.prog 62 #[.pointer (some ⟨b, 0, none⟩), .int .i64 (most : Int)] w fun e w' => e = .returned (.string ⟨(rdText most s).1.toArray⟩) ∧ RdS w' b (rdText most s).2 ∧ Kp (One b) w w' := by
  obtain ⟨l, err⟩ := s
  by_cases he : err = 0
  · subst he
    obtain ⟨v, h, ht⟩ := h
    obtain ⟨n, k, er, htk⟩ : ∃ n k er, takeN 0 l = (n, k, er) := ⟨_, _, _, rfl⟩
    have hlen := takeN_len l
    have p1 := rtext_bad b v l (most : Int) w h hm
    have p2 := rtext_long b v l (most : Int) w h hm
    have p3 := rtext_short b v l (most : Int) w h hm
    have p4 := rtext_yes b v l (most : Int) w h hm
    rw [htk] at p1 p2 p3 p4 hlen
    simp only at p1 p2 p3 p4 hlen
    by_cases h0 : er = 0
    · subst h0
      by_cases h1 : most < n
      · have e1 : rdText most (l, 0) = ([], (l, 21)) := by unfold rdText; simp [htk, h1]
        refine (p2 rfl (by omega)).mono ?_
        rintro e w' ⟨rfl, hk, h'⟩
        rw [e1]
        exact ⟨rfl, RdS.step (s := (l, 0)) (s' := (l, 21)) h ht hk h' (fun g hg => hg), hk⟩
      · by_cases h2 : l.length - k < n
        · have e1 : rdText most (l, 0) = ([], (l, 20)) := by unfold rdText; simp [htk, h1, h2]
          refine (p3 rfl (by omega) (by omega)).mono ?_
          rintro e w' ⟨rfl, hk, h'⟩
          rw [e1]
          exact ⟨rfl, RdS.step (s := (l, 0)) (s' := (l, 20)) h ht hk h' (fun g hg => hg), hk⟩
        · have e1 : rdText most (l, 0) = ((l.drop k).take n, (l.drop (k + n), 0)) := by unfold rdText; simp [htk, h1, h2]
          refine (p4 rfl (by omega) (by omega)).mono ?_
          rintro e w' ⟨rfl, hk, v', h', hs⟩
          rw [e1]
          exact ⟨rfl, RdS.step (s := (l, 0)) (s' := (l.drop (k + n), 0)) h ht hk h' hs, hk⟩
    · have e1 : rdText most (l, 0) = ([], (l, er)) := by unfold rdText; simp [htk, h0]
      refine (p1 h0).mono ?_
      rintro e w' ⟨rfl, hk, h'⟩
      rw [e1]
      exact ⟨rfl, RdS.step (s := (l, 0)) (s' := (l, er)) h ht hk h' (fun g hg => hg), hk⟩
  · have e1 : rdText most (l, err) = ([], (l, err)) := by unfold rdText; simp [he]
    have h0 := h
    obtain ⟨v, h, ht⟩ := h
    refine (rtext_err b v l err _ w h he).mono ?_
    rintro e w' ⟨rfl, rfl⟩
    rw [e1]
    exact ⟨rfl, h0, Kp.refl _ _⟩
theorem rdNum_lt (s : Rd) : (rdNum s).1 < 9223372036854775808 := by
  unfold rdNum
  split
  · simp
  · have := takeN_lt s.1
    generalize takeN 0 s.1 = q at *
    obtain ⟨n, k, e⟩ := q
    simp only at this ⊢
    split
    · exact this
    · simp
theorem rdNum_le (s : Rd) : (rdNum s).2.1.length ≤ s.1.length := by
  unfold rdNum
  split
  · exact Nat.le_refl _
  · generalize takeN 0 s.1 = q at *
    obtain ⟨n, k, e⟩ := q
    simp only
    split
    · simp
    · exact Nat.le_refl _
theorem rdText_le (m : Nat) (s : Rd) : (rdText m s).2.1.length ≤ s.1.length ∧ (rdText m s).1.length ≤ m := by
  unfold rdText
  split
  · simp
  · generalize takeN 0 s.1 = q at *
    obtain ⟨n, k, e⟩ := q
    simp only
    split
    · simp
    · split
      · simp
      · split
        · simp
        · simp; omega
end Go.Proofs.Ytifdceofglocdaa

/- octets.Writer's texts by contract. No condition beyond what each theorem states. -/
namespace Go.Proofs.Ytifdceofglocdaa
open Go Go.RowKit Go.PlainAid

set_option maxHeartbeats 1000000 in
theorem wput_any (b B : Nat) (v : Value) (l : List UInt8) (x : UInt8) (w : World) (h : WrB w b B v l) (hB : B ≤ w.heap.size) (hl : l.length ≤ 2000000) :
    Calls Try.prog 82 #[.pointer (some ⟨b, 0, none⟩), .int .u8 (x.toNat : Int)] w fun e w' => e = .returned (.tuple #[]) ∧ WrAft w b B v (l ++ [x]) w' := by
  obtain ⟨hb, ho⟩ := h
  obtain ⟨A, c, rfl⟩ : ∃ A c, v = .slice A l.length c := by obtain ⟨A, c, h, _⟩ := own_len ho; exact ⟨A, c, h⟩
  have z0 : w.cell? ⟨b, 0, none⟩ = some (.slice A l.length c) := hb.cell 0
  have HO := Lib.hid ho; have HB := Lib.hid hb; clear ho hb
  go_enter Try.func82, Try.ntmps82
  go_wp2_with (at_builtin; refine wpList_app1 _ rfl _ _ 46 rfl B 5 _ 1 1 Try.underlying46 Try.infoByte rfl (by omega) _ l.length (u8s l) rfl (HO.out.alloc _) _ _ _ rfl (Bk.new' (by simp) rfl) rfl (by simp [Value.oneCell']) (by omega) (by omega) (by simp; omega) ?_; intro g1 cap1 w1 hown1 hk1 hat1; have B1 : Bk w1 b 78 [.slice A l.length c] := (HB.out.alloc _).kp hk1 (own_ne HO.out HB.out (by decide)); have z1 : w1.cell? ⟨b, 0, none⟩ = some (.slice A l.length c) := B1.cell 0; have zf1 := B1.frozen; clear B1)
  have HS := WrB.step ⟨HB.out, HO.out⟩ hown1 hk1 hat1
  go_end0
  exact ⟨rfl, HS⟩
set_option maxHeartbeats 1000000 in
theorem each_any (b B : Nat) (v : Value) (l : List UInt8) (s : ByteArray) (w : World) (h : WrB w b B v l) (hB : B ≤ w.heap.size) (hl : l.length ≤ 1000000) (hs : s.size ≤ 1000000) :
    Calls Try.prog 81 #[.string s, .func (.func 82) #[.pointer (some ⟨b, 0, none⟩)] #[]] w fun e w' => e = .returned (.tuple #[]) ∧ WrAft w b B v (l ++ s.data.toList) w' := by
  have hb := get_bt s
  have HW := Lib.hid h; clear h
  go_enter Try.func81, Try.ntmps81
  go_wp2
  go_loopw [4, 7] (fun _ i wr => ∃ k : Nat, k ≤ s.size ∧ i = .int .i64 k ∧ WrAft w b B v (l ++ s.data.toList.take k) wr) (fun _ i _ => s.size - (intOf i).toNat)
  case atStart => exact ⟨0, Nat.zero_le _, rfl, by rw [List.take_zero, List.append_nil]; exact WrAft.start HW.out⟩
  case round =>
    obtain ⟨k, hk, rfl, hF⟩ := hrel
    by_cases hlt : k < s.size
    · have hk0 : (0 : Int) ≤ (k : Int) := by omega
      have hk1 : (k : Int) < (s.size : Int) := by omega
      have hl' : k < s.data.toList.length := by simpa using hlt
      have hc : bt s k = (((s.data.toList[k]'hl').toNat : Nat) : Int) := by
        rw [← hb k hlt]; simp [ByteArray.getElem_eq_getElem_data]
      have hT : s.data.toList.take (k + 1) = s.data.toList.take k ++ [s.data.toList[k]'hl'] := List.take_succ_eq_append_getElem hl'
      generalize s.data.toList[k]'hl' = c at *
      obtain ⟨va, hwa, hka, hna⟩ := hF
      have hpl : (l ++ s.data.toList.take k).length ≤ 2000000 := by rw [List.length_append, List.length_take]; omega
      have pa := wput_any b B va _ c wr hwa (Nat.le_trans hB hka.size) hpl
      have HT := Lib.hid hT; have HK := Lib.hid hka; have HN := Lib.hid hna
      clear hT hwa hka hna hpl
      have pb : Calls Try.prog 82 #[.pointer (some ⟨b, 0, none⟩), .int .u8 (bt s k)] wr fun e w' => e = .returned (.tuple #[]) ∧ WrAft wr b B va (l ++ s.data.toList.take k ++ [c]) w' := by rw [hc]; exact pa
      clear pa hc
      go_wp2_with fail
      refine pb.mono ?_
      rintro e w' ⟨rfl, h2⟩
      have H2 := Lib.hid h2; clear h2 pb
      go_wp2
      go_roundw
      case rel => exact ⟨k + 1, by omega, by go_num, by rw [HT.out, ← List.append_assoc]; exact WrAft.then_ HK.out HN.out H2.out⟩
      case measure => simp [intOf]; omega
    · have hk' : k = s.size := by omega
      have hk1 : ¬ (k : Int) < (s.size : Int) := by omega
      have HX := Lib.hid (show s.data.toList.take k = s.data.toList from List.take_of_length_le (by simp; omega))
      have HF := Lib.hid hF; clear hF
      clear hk'
      go_wp2
      go_end0
      exact ⟨rfl, by rw [← HX.out]; exact HF.out⟩
set_option maxHeartbeats 1000000 in
theorem wtext_any (b B : Nat) (v : Value) (l : List UInt8) (s : ByteArray) (w : World) (h : WrB w b B v l) (hB : B ≤ w.heap.size) (hl : l.length ≤ 900000) (hs : s.size ≤ 1000000) :
    Calls Try.prog 55 #[.pointer (some ⟨b, 0, none⟩), .string s] w fun e w' => e = .returned (.tuple #[]) ∧ WrAft w b B v (l ++ numS s.size ++ s.data.toList) w' := by
  have pn := wnum_any b B v l (s.size : Int) w h hB (by omega) (by omega)
  rw [Int.toNat_natCast] at pn
  have hlen : (numS s.size).length ≤ 9 := numS_len 8 _ (by omega)
  go_enter Try.func55, Try.ntmps55
  go_wp2_with fail
  refine pn.mono ?_
  rintro e w1 ⟨rfl, v1, h1, k1, n1⟩
  have pe := each_any b B v1 _ s w1 h1 (Nat.le_trans hB k1.size) (by rw [List.length_append]; omega) hs
  have HK := Lib.hid k1; have HN := Lib.hid n1
  clear pn h1 k1 n1 h
  go_wp2_with fail
  refine pe.mono ?_
  rintro e w' ⟨rfl, h2⟩
  have H2 := Lib.hid h2; clear h2 pe
  go_wp2
  go_end0
  exact ⟨rfl, WrAft.then_ HK.out HN.out H2.out⟩
end Go.Proofs.Ytifdceofglocdaa
