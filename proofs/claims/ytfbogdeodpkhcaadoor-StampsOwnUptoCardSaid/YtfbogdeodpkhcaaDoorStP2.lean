/- The program's stamps: Parse and Text, by contracts. No condition beyond what each theorem states. -/
import Derived.Test.YtfbogdeodpkhcaaDoorStP
namespace Go.Proofs.YtfbogdeodpkhcaaDoor
open Go Go.RowKit Go.PlainAid

theorem Tryd.infoStr : (Tryd.prog.info? 9).map (fun i => (i.zero, i.size, i.bytes)) = some (some (.string ⟨#[]⟩), 1, 16) := by kernel_rfl
theorem str_inj {a b : ByteArray} (h : a.data.toList = b.data.toList) : a = b := by
  obtain ⟨⟨l⟩⟩ := a
  obtain ⟨⟨m⟩⟩ := b
  simp at h; subst h; rfl
theorem str_eq_facts (x y : ByteArray) (h : x.data.toList ≠ y.data.toList) : (x.toList == y.toList) = false ∧ (x.data.toList == y.data.toList) = false :=
  ⟨beq_eq_false_iff_ne.2 (by rw [ByteArray.toList_eq, ByteArray.toList_eq]; exact h), beq_eq_false_iff_ne.2 h⟩
theorem okN_rng {n : Int} (h : okN n = true) : -9223372036854775808 ≤ n ∧ n ≤ 9223372036854775807 := by
  unfold okN at h; simp only [decide_eq_true_eq] at h; omega
theorem pieceN_ok {x : Bytes} {n : Int} (h : Lib.atoiAll x = .ok n) : pieceN x = if okN n = true ∧ Lib.itoa n = x then some n else none := by unfold pieceN; rw [h]
theorem pieceN_no {x : Bytes} (h : ∀ v, Lib.atoiAll x ≠ .ok v) : pieceN x = none := by
  unfold pieceN
  cases hx : Lib.atoiAll x with
  | ok v => exact absurd hx (h v)
  | «syntax» => rfl
  | range => rfl

set_option maxHeartbeats 4000000 in
set_option maxRecDepth 100000 in
theorem parseS_any (s : ByteArray) (w : World) (hs : s.size < 4294967281) (hL : Lw w) :
    Calls Tryd.prog 26 #[.string s] w fun e w' => ∃ r, e = .returned (.tuple #[r, .int .i64 (parseS s.data.toList).2]) ∧ OwnI w w' r (parseS s.data.toList).1 ∧ Kp No w w' := by
  have HL := Lib.hid hL; clear hL
  go_enter Tryd.func26, Tryd.ntmps26
  by_cases h0 : s.data.toList = [45]
  · have hP : parseS s.data.toList = ([], 0) := by unfold parseS; rw [if_pos h0]
    have HP := Lib.hid hP; clear hP
    obtain rfl : s = ⟨#[45]⟩ := str_inj h0
    clear h0
    go_wp2
    go_ret2
    exact ⟨_, by rw [HP.out]; rfl, by rw [HP.out]; exact OwnI.nil _ _, Kp.refl _ _⟩
  · have f1 : ¬ s.toList = [45] := by rw [ByteArray.toList_eq]; exact h0
    have f2 : (s.toList == [45]) = false := beq_eq_false_iff_ne.2 f1
    have H0 := Lib.hid h0; clear h0
    go_wp2_with fail
    obtain ⟨m, hm⟩ := HL.out.mx
    refine (Tryd.strings_Split s ⟨#[46]⟩ m _ hs hm (by decide)).mono ?_
    rintro e w1 ⟨rfl, hw1⟩
    have hcnt : Lib.countB s ⟨#[46]⟩ = s.data.toList.count 46 := Lib.count_one 46 _
    have htx : (Lib.splitB ⟨#[46]⟩ 0 (Lib.countB s ⟨#[46]⟩) s).map (·.data.toList) = pieces s.data.toList := by
      rw [Lib.splitB_data, hcnt]; rfl
    have hlen : (Lib.splitB ⟨#[46]⟩ 0 (Lib.countB s ⟨#[46]⟩) s).length = Lib.countB s ⟨#[46]⟩ + 1 := by
      rw [← List.length_map (f := fun x : ByteArray => x.data.toList), htx, hcnt]; exact splitK_length _
    have hsz : ∀ x ∈ Lib.splitB ⟨#[46]⟩ 0 (Lib.countB s ⟨#[46]⟩) s, x.size ≤ s.size := fun x hx => by
      have h1 : x.data.toList ∈ pieces s.data.toList := by rw [← htx]; exact List.mem_map_of_mem hx
      have := splitK_size _ _ h1
      simpa using this
    have hb : Bk w1 w.heap.size 9 ((Lib.splitB ⟨#[46]⟩ 0 (Lib.countB s ⟨#[46]⟩) s).map Value.string) := by rw [hw1]; exact Bk.new _ _ _
    have hk1 : Kp No w w1 := by rw [hw1]; exact (Kp.refl _ _).alloc _
    have hcl : Lib.countB s ⟨#[46]⟩ + 1 ≤ 4294967281 := by
      rw [hcnt]; have := List.count_le_length (a := (46 : UInt8)) (l := s.data.toList); have e : s.data.toList.length = s.size := by simp
      omega
    generalize Lib.splitB ⟨#[46]⟩ 0 (Lib.countB s ⟨#[46]⟩) s = PB at *
    rw [← hlen] at hcl ⊢
    clear hw1 hcnt hlen f1 f2
    have HTX := Lib.hid htx; have HSZ := Lib.hid hsz; have HB := Lib.hid hb; have HK1 := Lib.hid hk1
    clear htx hsz hb hk1
    have hw0 : w.heap.size < w1.heap.size := HB.out.lt
    go_wp2
    go_loopw [14, 4] (fun i o wr => ∃ k : Nat, k ≤ PB.length ∧ i = .int .i64 k ∧ Kp No w1 wr ∧ ∃ D : List Int, D.length = k ∧ k ≤ 4 ∧ wr.ownsRow w1.heap.size 3 1 o k (ints D) ∧ nums ((PB.take k).map (·.data.toList)) = some D) (fun i _ _ => PB.length - (intOf i).toNat)
    case atStart => exact ⟨0, Nat.zero_le _, rfl, Kp.refl _ _, [], rfl, by omega, nil_own _ _ _ _, rfl⟩
    case round =>
      obtain ⟨k, hk, rfl, hkp, D, hDl, hk4, hown, hN⟩ := hrel
      have HN := Lib.hid hN; have HDL := Lib.hid hDl; clear hN hDl
      obtain ⟨Ao, co, hvo, hco⟩ := own_len hown
      by_cases hlt : k < PB.length
      · have hk0 : (0 : Int) ≤ (k : Int) := by omega
        have hk1 : (k : Int) < (PB.length : Int) := by omega
        have hx : wr.cell? ⟨w.heap.size, k, none⟩ = some (.string PB[k]) := by
          rw [(HB.out.no hkp).cell, List.getElem?_map, List.getElem?_eq_getElem hlt]; rfl
        have hxs := HSZ.out PB[k] (List.getElem_mem hlt)
        have HT := Lib.hid (show (PB.take (k + 1)).map (·.data.toList) = (PB.take k).map (·.data.toList) ++ [PB[k].data.toList] by
          rw [List.take_succ_eq_append_getElem hlt, List.map_append]; rfl)
        have HM := Lib.hid (show PB[k].data.toList ∈ pieces s.data.toList by rw [← HTX.out]; exact List.mem_map_of_mem (List.getElem_mem hlt))
        have HLG := Lib.hid (show k = 4 → 4 < (pieces s.data.toList).length from fun e => by rw [← HTX.out, List.length_map]; omega)
        generalize PB[k] = x at *
        have HKP := Lib.hid hkp; clear hkp
        go_wp2_with fail
        refine (atoi_any x _ (by omega) (HL.out.no (HK1.out.trans HKP.out))).mono ?_
        rintro e w2 ⟨n, er, rfl, hk2, hres⟩
        have HK2 := Lib.hid hk2
        have hown2 := own_kp hown hk2 (fun _ _ m => m)
        have hs2 := hk2.size; have hs1 := HKP.out.size
        clear hk2 hown
        rcases hres with ⟨ha, rfl⟩ | ⟨ha, N, rfl⟩
        · have HA := Lib.hid (pieceN_ok ha); clear ha
          go_wp2_with fail
          refine (counts_any n _).mono ?_
          rintro e w' ⟨rfl, rfl⟩
          cases hok : okN n with
          | false =>
            have HX := Lib.hid (parse_bad H0.out HM.out (by rw [HA.out, if_neg (by rw [hok]; simp)])); clear hok
            go_wp2
            go_ret2
            exact ⟨_, by rw [HX.out]; rfl, by rw [HX.out]; exact OwnI.nil _ _, (HK1.out.trans HKP.out).trans HK2.out⟩
          | true =>
            obtain ⟨n0, n1⟩ := okN_rng hok
            have HOK := Lib.hid hok; clear hok
            go_wp2_with fail
            refine (itoa_any n n0 n1 _ (HL.out.no ((HK1.out.trans HKP.out).trans HK2.out))).mono ?_
            rintro e w3 ⟨rfl, hk3⟩
            have HK3 := Lib.hid (((HK1.out.trans HKP.out).trans HK2.out).trans hk3)
            have HK3' := Lib.hid ((HKP.out.trans HK2.out).trans hk3)
            have hown3 := own_kp hown2 hk3 (fun _ _ m => m)
            have hs3 := hk3.size
            clear hk3 hown2
            obtain ⟨q, hq⟩ : ∃ q : ByteArray, (⟨(Lib.itoa n).toArray⟩ : ByteArray) = q := ⟨_, rfl⟩
            have HQ := Lib.hid (show q.data.toList = Lib.itoa n by rw [← hq])
            rw [hq]; clear hq
            by_cases hqx : q.data.toList = x.data.toList
            · have hqx' : q = x := str_inj hqx
              subst hqx'
              clear hqx
              by_cases h4 : k = 4
              · have HX := Lib.hid (parse_long H0.out (HLG.out h4))
                subst h4
                subst hvo
                clear hown3
                go_wp2
                go_ret2
                exact ⟨_, by rw [HX.out]; rfl, by rw [HX.out]; exact OwnI.nil _ _, HK3.out⟩
              · have h4' : ((k : Int) == 4) = false := by simp; omega
                have HPN := Lib.hid (show pieceN q.data.toList = some n by rw [HA.out, if_pos ⟨HOK.out, HQ.out.symm⟩])
                subst hvo
                go_wp2_with (at_builtin; refine wpList_app1 _ rfl _ _ 22 rfl w1.heap.size 3 _ 1 8 Tryd.underlying22 Tryd.infoInt rfl (by omega) _ k (ints D) rfl (hown3.alloc _) _ _ _ rfl (Bk.new' (by simp) rfl) rfl (by simp [Value.oneCell']) (by omega) (by omega) (by simp; omega) ?_; intro g4 cap4 w4 hown4 hk4' hat4)
                have hkk := (HK3'.out.alloc (.cells #[.int .i64 n] 3)).then_ hk4' fun i hi e => by have := hown3.lt i e; omega
                go_roundw
                case rel => exact ⟨k + 1, by omega, by go_num, hkk, D ++ [n], by simp [HDL.out], by omega, by rw [ints_append]; exact hown4, by rw [HT.out, nums_snoc HN.out HPN.out]⟩
                case measure => simp [intOf]; omega
            · obtain ⟨f1, f2⟩ := str_eq_facts q x hqx
              have HX := Lib.hid (parse_bad H0.out HM.out (by rw [HA.out, if_neg (fun h => hqx (by rw [HQ.out, h.2]))]))
              clear hqx
              go_wp2
              go_ret2
              exact ⟨_, by rw [HX.out]; rfl, by rw [HX.out]; exact OwnI.nil _ _, HK3.out⟩
        · have HX := Lib.hid (parse_bad H0.out HM.out (pieceN_no ha)); clear ha
          go_wp2
          go_ret2
          exact ⟨_, by rw [HX.out]; rfl, by rw [HX.out]; exact OwnI.nil _ _, (HK1.out.trans HKP.out).trans HK2.out⟩
      · have hk' : k = PB.length := by omega
        have HX := Lib.hid (parse_good H0.out (by have := HN.out; rw [hk', List.take_length, HTX.out] at this; exact this) (by rw [HDL.out]; exact hk4))
        have ho2 := own_mono (base' := w.heap.size) hown (by omega)
        rw [← HDL.out] at ho2
        have HO := Lib.hid ho2; clear ho2 hown
        subst hvo
        clear hk'
        have hk1 : ¬ (k : Int) < (PB.length : Int) := by omega
        go_wp2
        go_ret2
        exact ⟨_, by rw [HX.out]; rfl, by rw [HX.out]; exact HO.out, HK1.out.trans hkp⟩
end Go.Proofs.YtfbogdeodpkhcaaDoor
