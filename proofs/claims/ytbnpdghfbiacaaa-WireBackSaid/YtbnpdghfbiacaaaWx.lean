/- octets.Writer's texts by contract. No condition beyond what each theorem states. -/
import Derived.Test.YtbnpdghfbiacaaaWr
import Derived.PlainAid
namespace Go.Proofs.Ytbnpdghfbiacaaa
open Go Go.RowKit Go.PlainAid

set_option maxHeartbeats 1000000 in
theorem wput_any (b B : Nat) (v : Value) (l : List UInt8) (x : UInt8) (w : World) (h : WrB w b B v l) (hB : B ≤ w.heap.size) (hl : l.length ≤ 2000000) :
    Calls Try.prog 92 #[.pointer (some ⟨b, 0, none⟩), .int .u8 (x.toNat : Int)] w fun e w' => e = .returned (.tuple #[]) ∧ WrAft w b B v (l ++ [x]) w' := by
  obtain ⟨hb, ho⟩ := h
  obtain ⟨A, c, rfl⟩ : ∃ A c, v = .slice A l.length c := by obtain ⟨A, c, h, _⟩ := own_len ho; exact ⟨A, c, h⟩
  have z0 : w.cell? ⟨b, 0, none⟩ = some (.slice A l.length c) := hb.cell 0
  have HO := Lib.hid ho; have HB := Lib.hid hb; clear ho hb
  go_enter Try.func92, Try.ntmps92
  go_wp2_with (at_builtin; refine wpList_app1 _ rfl _ _ 30 rfl B 5 _ 1 1 Try.underlying30 Try.infoByte rfl (by omega) _ l.length (u8s l) rfl (HO.out.alloc _) _ _ _ rfl (Bk.new' (by simp) rfl) rfl (by simp [Value.oneCell']) (by omega) (by omega) (by simp; omega) ?_; intro g1 cap1 w1 hown1 hk1 hat1; have B1 : Bk w1 b 62 [.slice A l.length c] := (HB.out.alloc _).kp hk1 (own_ne HO.out HB.out (by decide)); have z1 : w1.cell? ⟨b, 0, none⟩ = some (.slice A l.length c) := B1.cell 0; have zf1 := B1.frozen; clear B1)
  have HS := WrB.step ⟨HB.out, HO.out⟩ hown1 hk1 hat1
  go_end0
  exact ⟨rfl, HS⟩
set_option maxHeartbeats 1000000 in
theorem each_any (b B : Nat) (v : Value) (l : List UInt8) (s : ByteArray) (w : World) (h : WrB w b B v l) (hB : B ≤ w.heap.size) (hl : l.length ≤ 1000000) (hs : s.size ≤ 1000000) :
    Calls Try.prog 91 #[.string s, .func (.func 92) #[.pointer (some ⟨b, 0, none⟩)] #[]] w fun e w' => e = .returned (.tuple #[]) ∧ WrAft w b B v (l ++ s.data.toList) w' := by
  have hb := get_bt s
  have HW := Lib.hid h; clear h
  go_enter Try.func91, Try.ntmps91
  go_wp2
  go_loopw [4, 7] (fun _ i wr => ∃ k : Nat, k ≤ s.size ∧ i = .int .i64 k ∧ WrAft w b B v (l ++ s.data.toList.take k) wr) (fun _ i _ => s.size - (intOf i).toNat)
  case atStart => exact ⟨0, Nat.zero_le _, rfl, by rw [List.take_zero, List.append_nil]; exact WrAft.start HW.out⟩
  case round =>
    obtain ⟨k, hk, rfl, hF⟩ := hrel
    by_cases hlt : k < s.size
    · have hk0 : (0 : Int) ≤ (k : Int) := by omega
      have hk1 : (k : Int) < (s.size : Int) := by omega
      have hl' : k < s.data.toList.length := by simpa using hlt
      have hc : bt s k = (((s.data.toList[k]'hl').toNat : Nat) : Int) := by
        rw [← hb k hlt]; simp [ByteArray.getElem_eq_getElem_data]
      have hT : s.data.toList.take (k + 1) = s.data.toList.take k ++ [s.data.toList[k]'hl'] := List.take_succ_eq_append_getElem hl'
      generalize s.data.toList[k]'hl' = c at *
      obtain ⟨va, hwa, hka, hna⟩ := hF
      have hpl : (l ++ s.data.toList.take k).length ≤ 2000000 := by rw [List.length_append, List.length_take]; omega
      have pa := wput_any b B va _ c wr hwa (Nat.le_trans hB hka.size) hpl
      have HT := Lib.hid hT; have HK := Lib.hid hka; have HN := Lib.hid hna
      clear hT hwa hka hna hpl
      have pb : Calls Try.prog 92 #[.pointer (some ⟨b, 0, none⟩), .int .u8 (bt s k)] wr fun e w' => e = .returned (.tuple #[]) ∧ WrAft wr b B va (l ++ s.data.toList.take k ++ [c]) w' := by rw [hc]; exact pa
      clear pa hc
      go_wp2_with fail
      refine pb.mono ?_
      rintro e w' ⟨rfl, h2⟩
      have H2 := Lib.hid h2; clear h2 pb
      go_wp2
      go_roundw
      case rel => exact ⟨k + 1, by omega, by go_num, by rw [HT.out, ← List.append_assoc]; exact WrAft.then_ HK.out HN.out H2.out⟩
      case measure => simp [intOf]; omega
    · have hk' : k = s.size := by omega
      have hk1 : ¬ (k : Int) < (s.size : Int) := by omega
      have HX := Lib.hid (show s.data.toList.take k = s.data.toList from List.take_of_length_le (by simp; omega))
      have HF := Lib.hid hF; clear hF
      clear hk'
      go_wp2
      go_end0
      exact ⟨rfl, by rw [← HX.out]; exact HF.out⟩
set_option maxHeartbeats 1000000 in
theorem wtext_any (b B : Nat) (v : Value) (l : List UInt8) (s : ByteArray) (w : World) (h : WrB w b B v l) (hB : B ≤ w.heap.size) (hl : l.length ≤ 900000) (hs : s.size ≤ 1000000) :
    Calls Try.prog 75 #[.pointer (some ⟨b, 0, none⟩), .string s] w fun e w' => e = .returned (.tuple #[]) ∧ WrAft w b B v (l ++ numS s.size ++ s.data.toList) w' := by
  have pn := wnum_any b B v l (s.size : Int) w h hB (by omega) (by omega)
  rw [Int.toNat_natCast] at pn
  have hlen : (numS s.size).length ≤ 9 := numS_len 8 _ (by omega)
  go_enter Try.func75, Try.ntmps75
  go_wp2_with fail
  refine pn.mono ?_
  rintro e w1 ⟨rfl, v1, h1, k1, n1⟩
  have pe := each_any b B v1 _ s w1 h1 (Nat.le_trans hB k1.size) (by rw [List.length_append]; omega) hs
  have HK := Lib.hid k1; have HN := Lib.hid n1
  clear pn h1 k1 n1 h
  go_wp2_with fail
  refine pe.mono ?_
  rintro e w' ⟨rfl, h2⟩
  have H2 := Lib.hid h2; clear h2 pe
  go_wp2
  go_end0
  exact ⟨rfl, WrAft.then_ HK.out HN.out H2.out⟩
end Go.Proofs.Ytbnpdghfbiacaaa
