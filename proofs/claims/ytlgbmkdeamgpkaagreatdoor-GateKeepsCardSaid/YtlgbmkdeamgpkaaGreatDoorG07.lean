/- Several texts of this claim in one. No condition beyond what each theorem states. -/
import Derived.Test.YtlgbmkdeamgpkaaGreatDoorG06
import Derived.Test.YtlgbmkdeamgpkaaGreatDoorG04
import Derived.IntWalk
import Derived.Test.YtlgbmkdeamgpkaaGreatDoorB11
import Derived.Outline
/- The gate's raise by contract: a later stamp is written down. No condition beyond what each theorem states. -/
namespace Go.Proofs.YtlgbmkdeamgpkaaGreatDoor
open Go Go.RowKit Go.PlainAid

theorem bytesG_out (s : List Int) : bytesG s = numS s.length ++ outI s := by simp [bytesG, natsG, cntsS, numsS, outI]
def RaiseR (W : World) (gb db sb cap : Nat) (n : Int) (P : Nat → Prop) (g : Gat) (d : Dsk) (s : List Int) (e : Ending) (w' : World) : Prop :=
  Kp (fun q => q = gb ∨ q = db ∨ q = sb) W w' ∧ DkB w' db sb cap (dwriteG d ((g.seq + 1) % 2) (sectG (g.seq + 1) s)).1 ∧
    ((dwriteG d ((g.seq + 1) % 2) (sectG (g.seq + 1) s)).2 = 0 ∧ e = .returned (.int .i64 0) ∧ GtB w' (fun q => W.heap.size ≤ q) gb db n ⟨s, g.seq + 1, false⟩ ∨
     (dwriteG d ((g.seq + 1) % 2) (sectG (g.seq + 1) s)).2 = 40 ∧ e = .returned (.int .i64 40) ∧ GtB w' P gb db n { g with dead := true })
set_option maxRecDepth 100000 in
set_option maxHeartbeats 4000000 in
theorem raise_any (gb db sb cap : Nat) (n : Int) (g : Gat) (d : Dsk) (P : Nat → Prop) (s : List Int) (A : Option Addr) (c : Nat) (W : World) (hG : GtB W P gb db n g) (hD : DkB W db sb cap d) (hs : SlI W (.slice A s.length c) s) (hv : validS s = true) (hq : g.seq + 1 ≤ 1073741824) (hL : d.L.length = 2) (hdd : g.dead = false) (hw : d.wr < 4611686018427387904) :
    Calls Tryz.prog 41 #[.pointer (some ⟨gb, 0, none⟩), .slice A s.length c] W (RaiseR W gb db sb cap n P g d s) := by
  have hs4 := valid_len hv
  have HV := Lib.hid hv; have HS := Lib.hid hs.arg; have HSL2 := Lib.hid hs; have HG := Lib.hid hG; have HD := Lib.hid hD
  have HSX := Lib.hid (show ∀ x ∈ s, x < 9223372036854775808 from fun x hx => by
    unfold validS at hv
    rw [Bool.and_eq_true, List.all_eq_true] at hv
    have := hv.2 x hx
    unfold okN at this
    rw [decide_eq_true_iff] at this
    omega)
  have HBL := Lib.hid (show (bytesG s).length ≤ 1000000 from by have := (bytes_len hv).1; omega)
  have HPK := Lib.hid (show packS 1 ((g.seq : Int) + 1) (bytesG s) = ([sectG (g.seq + 1) s], 0) from by have := pack_sect (q := g.seq + 1) hv hq; simpa using this)
  have HL := Lib.hid hL; have HDD := Lib.hid hdd; have HW := Lib.hid hw
  have HK1 := Lib.hid ((Kp.refl No W).alloc (.cells #[.slice none 0 0] 116))
  have hWr : WrB (W.alloc (.cells #[.slice none 0 0] 116)) W.heap.size W.heap.size (.slice none 0 0) [] := ⟨Bk.new' rfl rfl, OwnB.nil _ _⟩
  have HWR := Lib.hid hWr
  have pn := wnum_any W.heap.size W.heap.size (.slice none 0 0) [] (s.length : Int) (W.alloc (.cells #[.slice none 0 0] 116)) hWr (by simp) (by simp) (by omega)
  rw [Int.toNat_natCast, List.nil_append] at pn
  clear hG hD hs hv hL hdd hw hWr
  go_enter Tryz.func41, Tryz.ntmps41
  go_wp2_with fail
  refine pn.mono ?_
  rintro e w1 ⟨rfl, h1⟩
  have H1 := Lib.hid h1
  clear h1 pn
  go_wp2
  go_loopw [16] (fun i wr => ∃ k : Nat, k ≤ s.length ∧ i = .int .i64 k ∧ WrAft (W.alloc (.cells #[.slice none 0 0] 116)) W.heap.size W.heap.size (.slice none 0 0) (numS s.length ++ outI (s.take k)) wr) (fun i _ => s.length - (intOf i).toNat)
  case atStart => exact ⟨0, Nat.zero_le _, rfl, by simpa [outI] using H1.out⟩
  case round =>
  obtain ⟨k, hk, rfl, hF⟩ := hrel
  obtain ⟨v', hwa, hka, hna⟩ := hF
  have HKW := Lib.hid (show Kp No W wr from HK1.out.then_ hka fun i hi e => by
    rcases e with e | e
    · omega
    · cases e)
  have HWA := Lib.hid hwa; have HKA := Lib.hid hka; have HNA := Lib.hid hna
  have hszr : W.heap.size ≤ wr.heap.size := HKW.out.size
  clear hwa hka hna H1
  by_cases hlt : k < s.length
  · have hk0 : (0 : Int) ≤ (k : Int) := by omega
    have hk1 : (k : Int) < (s.length : Int) := by omega
    obtain ⟨g', o, c', e1, hxx⟩ := (HS.out.no HKW.out).at_ hlt
    have hx := hxx k _ (List.getElem?_eq_getElem hlt)
    clear hxx
    injection e1 with e1 _ e1c
    subst e1 e1c
    have HT := Lib.hid (outI_snoc hlt)
    have HX := Lib.hid (HSX.out _ (List.getElem_mem hlt))
    have hol := outI_len (s.take k) fun x hx => HSX.out x (List.mem_of_mem_take hx)
    rw [List.length_take] at hol
    have hnl : (numS s.length).length ≤ 9 := numS_len 8 _ (by omega)
    generalize s[k] = x at *
    have pa := wnum_any W.heap.size W.heap.size v' (numS s.length ++ outI (s.take k)) x wr HWA.out hszr (by rw [List.length_append]; omega) HX.out
    clear hol hnl
    go_wp2_with fail
    refine pa.mono ?_
    rintro e w' ⟨rfl, h2⟩
    have H2 := Lib.hid h2
    clear h2 pa
    go_wp2
    go_roundw
    case rel => exact ⟨k + 1, by omega, by go_num, by rw [HT.out, ← List.append_assoc]; exact WrAft.then_ HKA.out HNA.out H2.out⟩
    case measure => simp [intOf]; omega
  · have hk1 : ¬ (k : Int) < (s.length : Int) := by omega
    obtain rfl : k = s.length := by omega
    have HWC := Lib.hid (show WrB wr W.heap.size W.heap.size v' (bytesG s) from by rw [bytesG_out]; have h := HWA.out; rw [List.take_length] at h; exact h)
    have HWB := Lib.hid (show ∀ W2, Kp No wr W2 → WrB W2 W.heap.size W.heap.size v' (bytesG s) from fun W2 kk => ⟨HWC.out.1.no kk, own_kp HWC.out.2 kk fun _ _ m => m⟩)
    have hg := HG.out
    obtain ⟨hv, hb, hsl, hp⟩ := hg
    obtain ⟨AH, cH, rfl, _⟩ := id hsl
    have HGB := Lib.hid (show ∀ W2, Kp No wr W2 → Bk W2 gb 78 (gtC n db (.slice AH g.high.length cH) g) from fun W2 kk => hb.no (HKW.out.trans kk))
    have HSL := Lib.hid hsl
    have HP := Lib.hid hp
    clear hb hsl hp hk hk1 hlt HWA HKA HNA
    go_upto_region 8 with (fail)
    have hwrp : IntKind.i64.wrap ((g.seq : Int) + 1) = (g.seq : Int) + 1 := IntWalk.i64_in _ (by omega)
    have hF : (fun W2 => W2.cell? ⟨gb, 3, none⟩ = some (.int .i64 (g.seq : Int))) wr.drew := (HGB.out _ (Kp.refl No wr).drew).cell 3
    refine rg_begin (fun W2 => W2.cell? ⟨gb, 3, none⟩ = some (.int .i64 (g.seq : Int))) 12 (by kernel_rfl) ?_
    refine rg_take (i := 0) (v := ?va0) (by simp only [List.getElem?_toArray, List.getElem?_cons_zero]; rfl) (by kernel_rfl) (by exact fun _ _ _ h => h) (by rfl) ?ra0 hF ?sa0
    case ra0 => (intro W hW; clear hW; go_simp; try with_reducible rfl)
    try simp only [Act.put, List.setIfInBounds_toArray, List.set_cons_zero, List.set_cons_succ]
    refine rg_take (i := 1) (v := ?va1) (by simp only [List.getElem?_toArray, List.getElem?_cons_succ, List.getElem?_cons_zero]; rfl) (by kernel_rfl) (by exact fun _ _ _ h => h) (by rfl) ?ra1 hF ?sa1
    case ra1 => (intro W hW; clear hW; go_simp; try with_reducible rfl)
    try simp only [Act.put, List.setIfInBounds_toArray, List.set_cons_zero, List.set_cons_succ]
    refine rg_take (i := 2) (v := ?va2) (by simp only [List.getElem?_toArray, List.getElem?_cons_succ, List.getElem?_cons_zero]; rfl) (by kernel_rfl) (by exact fun _ _ _ h => h) (by rfl) ?ra2 hF ?sa2
    case ra2 => (intro W hW; clear hW; go_simp; try with_reducible rfl)
    try simp only [Act.put, List.setIfInBounds_toArray, List.set_cons_zero, List.set_cons_succ]
    refine rg_take (i := 3) (v := ?va3) (by simp only [List.getElem?_toArray, List.getElem?_cons_succ, List.getElem?_cons_zero]; rfl) (by kernel_rfl) (by exact fun _ _ _ h => h) (by rfl) ?ra3 hF ?sa3
    case ra3 => (intro W9 hW; have z0 : W9.cell? ⟨gb, 3, none⟩ = some (.int .i64 (g.seq : Int)) := hW; go_simp; try with_reducible rfl)
    try simp only [Act.put, List.setIfInBounds_toArray, List.set_cons_zero, List.set_cons_succ]
    refine rg_take (i := 4) (v := ?va4) (by simp only [List.getElem?_toArray, List.getElem?_cons_succ, List.getElem?_cons_zero]; rfl) (by kernel_rfl) (by exact fun _ _ _ h => h) (by rfl) ?ra4 hF ?sa4
    case ra4 => (intro W hW; clear hW; go_simp; try with_reducible rfl)
    try simp only [Act.put, List.setIfInBounds_toArray, List.set_cons_zero, List.set_cons_succ]
    refine rg_one (i := 5) (oi := ?oa5) ?aa5 ?ba5 ?ca5 ?da5
    case aa5 => (simp only [List.getElem?_toArray, List.getElem?_cons_succ, List.getElem?_cons_zero]; rfl)
    case ba5 => kernel_rfl
    case ca5 => rfl
    intro K hK
    (go_simp; refine (wbytes_any W.heap.size W.heap.size v' (bytesG s) _ (HWB.out _ (Kp.refl No wr).drew) hszr HBL.out).mono ?_; rintro e w5 ⟨v5, rfl, ho5, k5⟩; obtain ⟨A5, c5, rfl, _, hc5⟩ := own_cap ho5)
    refine rg_use hK ((HGB.out _ ((Kp.refl No wr).drew.trans k5)).cell 3) (fun hF => ?_)
    clear hK K
    try simp only [Act.put, List.setIfInBounds_toArray, List.set_cons_zero, List.set_cons_succ]
    refine rg_one (i := 6) (oi := ?oa6) ?aa6 ?ba6 ?ca6 ?da6
    case aa6 => (simp only [List.getElem?_toArray, List.getElem?_cons_succ, List.getElem?_cons_zero]; rfl)
    case ba6 => kernel_rfl
    case ca6 => rfl
    intro K hK
    (go_simp; (with_reducible refine Calls.mono (pack_any 1 ((g.seq : Int) + 1) A5 (bytesG s).length c5 (bytesG s) _ (own_argB ho5) hc5) ?_); rintro e w6 ⟨v6, he6, hr6, k6⟩; rw [HPK.out] at he6 hr6; subst he6)
    refine rg_use hK ((HGB.out _ (((Kp.refl No wr).drew.trans k5).trans k6)).cell 3) (fun hF => ?_)
    clear hK K
    refine rg_take (i := 7) (v := ?va7) (by simp only [List.getElem?_toArray, List.getElem?_cons_succ, List.getElem?_cons_zero]; rfl) (by kernel_rfl) (by exact fun _ _ _ h => h) (by rfl) ?ra7 hF ?sa7
    case ra7 => (intro W hW; clear hW; go_simp; try with_reducible rfl)
    try simp only [Act.put, List.setIfInBounds_toArray, List.set_cons_zero, List.set_cons_succ]
    refine rg_take (i := 8) (v := ?va8) (by simp only [List.getElem?_toArray, List.getElem?_cons_succ, List.getElem?_cons_zero]; rfl) (by kernel_rfl) (by exact fun _ _ _ h => h) (by rfl) ?ra8 hF ?sa8
    case ra8 => (intro W hW; clear hW; go_simp; try with_reducible rfl)
    try simp only [Act.put, List.setIfInBounds_toArray, List.set_cons_zero, List.set_cons_succ]
    refine rg_take (i := 9) (v := ?va9) (by simp only [List.getElem?_toArray, List.getElem?_cons_succ, List.getElem?_cons_zero]; rfl) (by kernel_rfl) (by exact fun _ _ _ h => h) (by rfl) ?ra9 hF ?sa9
    case ra9 => (intro W hW; clear hW; go_simp; try with_reducible rfl)
    try simp only [Act.put, List.setIfInBounds_toArray, List.set_cons_zero, List.set_cons_succ]
    refine rg_take (i := 10) (v := ?va10) (by simp only [List.getElem?_toArray, List.getElem?_cons_succ, List.getElem?_cons_zero]; rfl) (by kernel_rfl) (by exact fun _ _ _ h => h) (by rfl) ?ra10 hF ?sa10
    case ra10 => (intro W hW; clear hW; go_simp; try with_reducible rfl)
    try simp only [Act.put, List.setIfInBounds_toArray, List.set_cons_zero, List.set_cons_succ]
    refine rg_take (i := 11) (v := ?va11) (by simp only [List.getElem?_toArray, List.getElem?_cons_succ, List.getElem?_cons_zero]; rfl) (by kernel_rfl) (by exact fun _ _ _ h => h) (by rfl) ?ra11 hF ?sa11
    case ra11 => (intro W hW; clear hW; go_simp; try with_reducible rfl)
    try simp only [Act.put, List.setIfInBounds_toArray, List.set_cons_zero, List.set_cons_succ]
    refine rg_done (by kernel_rfl) ?_
    have HK6 := Lib.hid (show Kp No wr w6 from ((Kp.refl No wr).drew.trans k5).trans k6)
    obtain ⟨xs, hown, hrow⟩ := hr6
    obtain ⟨x9, hx9, hox⟩ := hrow 0 (by simp)
    have h64 : (sectG (g.seq + 1) s).length = 64 := sect_len HV.out
    have hox2 : w6.ownsRow w5.heap.size 5 1 x9 (sectG (g.seq + 1) s).length (u8s (sectG (g.seq + 1) s)) := hox
    rw [h64] at hox2
    obtain ⟨sb9, c9, rfl, _⟩ := own_form hox2 (by omega)
    obtain ⟨pb, cp, rfl, _⟩ := own_form hown (by simp)
    have hp0 : w6.cell? ⟨pb, 0, none⟩ = some (.slice (some ⟨sb9, 0, none⟩) 64 c9) := by
      have := hown.cells (g := pb) rfl 0 _ hx9
      rwa [Addr.add_mid] at this
    have hr9 : w6.rangeAt sb9 0 (u8s (sectG (g.seq + 1) s)) := fun j u hu => by
      have := hox2.cells (g := sb9) rfl j u hu
      rwa [Addr.add_mid] at this
    obtain ⟨cs9, hbs9⟩ := own_bk hox2 sb9 rfl
    obtain ⟨csp, hbsp⟩ := own_bk hown pb rfl
    have hD6 := (HD.out.no HKW.out).no HK6.out
    have hdst := hD6.1.st
    obtain ⟨spp, hse⟩ := hD6.1.se
    have PW := Lib.hid (show ∀ W2, Kp No w6 W2 → Calls Tryz.prog 69 #[.pointer (some ⟨db, 0, none⟩), .int .i64 (((g.seq : Int) + 1) % 2), .slice (some ⟨sb9, 0, none⟩) 64 c9] W2 (fun e w' => e = .returned (.int .i64 (dwriteG d ((g.seq + 1) % 2) (sectG (g.seq + 1) s)).2) ∧ DkB w' db sb cap (dwriteG d ((g.seq + 1) % 2) (sectG (g.seq + 1) s)).1 ∧ Kp (fun q => q = db ∨ q = sb) W2 w') from fun W2 kk => by
      have e1 : ((g.seq : Int) + 1) % 2 = (((g.seq + 1) % 2 : Nat) : Int) := by omega
      rw [e1]
      exact dwrite_any db sb cap ((g.seq + 1) % 2) sb9 0 c9 (sectG (g.seq + 1) s) W2 d (hD6.no kk) (by have := HL.out; omega) h64 (range_kp hr9 kk (fun m => m)) (hbs9.ne_ hse (by decide)) (hbs9.ne_ hdst (by decide)) HW.out)
    have hG6 := HGB.out w6 HK6.out
    have hgd : ∀ q, (q = db ∨ q = sb) → q ≠ gb := fun q e m => by
      rcases e with e | e
      · exact hG6.ne_ hdst (by decide) (m.symm.trans e)
      · exact hG6.ne_ hse (by decide) (m.symm.trans e)
    have hpd : ∀ q, (q = db ∨ q = sb) → q ≠ pb := fun q e m => by
      rcases e with e | e
      · exact hbsp.ne_ hdst (by decide) (m.symm.trans e)
      · exact hbsp.ne_ hse (by decide) (m.symm.trans e)
    have HG7 := Lib.hid (show ∀ w7, Kp (fun q => q = db ∨ q = sb) w6.drew w7 → Bk w7 gb 78 (gtC n db (.slice AH g.high.length cH) g) from fun w7 kk => hG6.drew.kp kk fun e => hgd gb e rfl)
    have HP7 := Lib.hid (show ∀ w7, Kp (fun q => q = db ∨ q = sb) w6.drew w7 → w7.cell? ⟨pb, 0, none⟩ = some (.slice (some ⟨sb9, 0, none⟩) 64 c9) from fun w7 kk => by rw [(hbsp.drew.kp kk fun e => hpd pb e rfl).cell, ← hbsp.cell]; exact hp0)
    have HS6 := Lib.hid ((HSL.out.no HKW.out).no HK6.out)
    have HSI := Lib.hid (show ∀ w7, Kp (fun q => q = db ∨ q = sb) w6.drew w7 → SlI w7 (.slice AH g.high.length cH) g.high from fun w7 kk => (HS6.out.no (Kp.refl No w6).drew).kp kk fun q cs hq e => by
      rcases e with e | e
      · exact hq.ne_ hdst (by decide) e
      · exact hq.ne_ hse (by decide) e)
    have hF : (fun W2 => W2.cell? ⟨gb, 1, none⟩ = some (.pointer (some ⟨db, 0, none⟩)) ∧ W2.cell? ⟨gb, 3, none⟩ = some (.int .i64 (g.seq : Int)) ∧ W2.cell? ⟨pb, 0, none⟩ = some (.slice (some ⟨sb9, 0, none⟩) 64 c9)) w6.drew := ⟨hG6.drew.cell 1, hG6.drew.cell 3, hp0⟩
    have HGP := HG.out
    clear hown hrow hx9 hox hox2 hp0 hr9 hbs9 hbsp hdst hse hD6 hG6 hgd hpd h64
    go_wp2
    refine rg_begin (fun W2 => W2.cell? ⟨gb, 1, none⟩ = some (.pointer (some ⟨db, 0, none⟩)) ∧ W2.cell? ⟨gb, 3, none⟩ = some (.int .i64 (g.seq : Int)) ∧ W2.cell? ⟨pb, 0, none⟩ = some (.slice (some ⟨sb9, 0, none⟩) 64 c9)) 15 (by kernel_rfl) ?_
    refine rg_take (i := 0) (v := ?vb0) (by simp only [List.getElem?_toArray, List.getElem?_cons_zero]; rfl) (by kernel_rfl) (by exact fun _ _ _ h => h) (by rfl) ?rb0 hF ?sb0
    case rb0 => (intro W hW; clear hW; go_simp; try with_reducible rfl)
    try simp only [Act.put, List.setIfInBounds_toArray, List.set_cons_zero, List.set_cons_succ]
    refine rg_take (i := 1) (v := ?vb1) (by simp only [List.getElem?_toArray, List.getElem?_cons_succ, List.getElem?_cons_zero]; rfl) (by kernel_rfl) (by exact fun _ _ _ h => h) (by rfl) ?rb1 hF ?sb1
    case rb1 => (intro W hW; clear hW; go_simp; try with_reducible rfl)
    try simp only [Act.put, List.setIfInBounds_toArray, List.set_cons_zero, List.set_cons_succ]
    refine rg_take (i := 2) (v := ?vb2) (by simp only [List.getElem?_toArray, List.getElem?_cons_succ, List.getElem?_cons_zero]; rfl) (by kernel_rfl) (by exact fun _ _ _ h => h) (by rfl) ?rb2 hF ?sb2
    case rb2 => (intro W hW; clear hW; go_simp; try with_reducible rfl)
    try simp only [Act.put, List.setIfInBounds_toArray, List.set_cons_zero, List.set_cons_succ]
    refine rg_take (i := 3) (v := ?vb3) (by simp only [List.getElem?_toArray, List.getElem?_cons_succ, List.getElem?_cons_zero]; rfl) (by kernel_rfl) (by exact fun _ _ _ h => h) (by rfl) ?rb3 hF ?sb3
    case rb3 => (intro W9 hW; obtain ⟨f1, f2, f3⟩ := hW; go_simp; try with_reducible rfl)
    try simp only [Act.put, List.setIfInBounds_toArray, List.set_cons_zero, List.set_cons_succ]
    refine rg_take (i := 4) (v := ?vb4) (by simp only [List.getElem?_toArray, List.getElem?_cons_succ, List.getElem?_cons_zero]; rfl) (by kernel_rfl) (by exact fun _ _ _ h => h) (by rfl) ?rb4 hF ?sb4
    case rb4 => (intro W hW; clear hW; go_simp; try with_reducible rfl)
    try simp only [Act.put, List.setIfInBounds_toArray, List.set_cons_zero, List.set_cons_succ]
    refine rg_take (i := 5) (v := ?vb5) (by simp only [List.getElem?_toArray, List.getElem?_cons_succ, List.getElem?_cons_zero]; rfl) (by kernel_rfl) (by exact fun _ _ _ h => h) (by rfl) ?rb5 hF ?sb5
    case rb5 => (intro W hW; clear hW; go_simp; try with_reducible rfl)
    try simp only [Act.put, List.setIfInBounds_toArray, List.set_cons_zero, List.set_cons_succ]
    refine rg_take (i := 6) (v := ?vb6) (by simp only [List.getElem?_toArray, List.getElem?_cons_succ, List.getElem?_cons_zero]; rfl) (by kernel_rfl) (by exact fun _ _ _ h => h) (by rfl) ?rb6 hF ?sb6
    case rb6 => (intro W hW; clear hW; go_simp; try with_reducible rfl)
    try simp only [Act.put, List.setIfInBounds_toArray, List.set_cons_zero, List.set_cons_succ]
    refine rg_take (i := 7) (v := ?vb7) (by simp only [List.getElem?_toArray, List.getElem?_cons_succ, List.getElem?_cons_zero]; rfl) (by kernel_rfl) (by exact fun _ _ _ h => h) (by rfl) ?rb7 hF ?sb7
    case rb7 => (intro W9 hW; obtain ⟨f1, f2, f3⟩ := hW; go_simp; try with_reducible rfl)
    try simp only [Act.put, List.setIfInBounds_toArray, List.set_cons_zero, List.set_cons_succ]
    refine rg_take (i := 8) (v := ?vb8) (by simp only [List.getElem?_toArray, List.getElem?_cons_succ, List.getElem?_cons_zero]; rfl) (by kernel_rfl) (by exact fun _ _ _ h => h) (by rfl) ?rb8 hF ?sb8
    case rb8 => (intro W hW; clear hW; go_simp; try with_reducible rfl)
    try simp only [Act.put, List.setIfInBounds_toArray, List.set_cons_zero, List.set_cons_succ]
    refine rg_take (i := 9) (v := ?vb9) (by simp only [List.getElem?_toArray, List.getElem?_cons_succ, List.getElem?_cons_zero]; rfl) (by kernel_rfl) (by exact fun _ _ _ h => h) (by rfl) ?rb9 hF ?sb9
    case rb9 => (intro W hW; clear hW; go_simp; try with_reducible rfl)
    try simp only [Act.put, List.setIfInBounds_toArray, List.set_cons_zero, List.set_cons_succ]
    refine rg_take (i := 10) (v := ?vb10) (by simp only [List.getElem?_toArray, List.getElem?_cons_succ, List.getElem?_cons_zero]; rfl) (by kernel_rfl) (by exact fun _ _ _ h => h) (by rfl) ?rb10 hF ?sb10
    case rb10 => (intro W hW; clear hW; go_simp; try with_reducible rfl)
    try simp only [Act.put, List.setIfInBounds_toArray, List.set_cons_zero, List.set_cons_succ]
    refine rg_take (i := 11) (v := ?vb11) (by simp only [List.getElem?_toArray, List.getElem?_cons_succ, List.getElem?_cons_zero]; rfl) (by kernel_rfl) (by exact fun _ _ _ h => h) (by rfl) ?rb11 hF ?sb11
    case rb11 => (intro W hW; clear hW; go_simp; try with_reducible rfl)
    try simp only [Act.put, List.setIfInBounds_toArray, List.set_cons_zero, List.set_cons_succ]
    refine rg_take (i := 12) (v := ?vb12) (by simp only [List.getElem?_toArray, List.getElem?_cons_succ, List.getElem?_cons_zero]; rfl) (by kernel_rfl) (by exact fun _ _ _ h => h) (by rfl) ?rb12 hF ?sb12
    case rb12 => (intro W9 hW; obtain ⟨f1, f2, f3⟩ := hW; go_simp; try with_reducible rfl)
    try simp only [Act.put, List.setIfInBounds_toArray, List.set_cons_zero, List.set_cons_succ]
    refine rg_one (i := 13) (oi := ?ob13) ?ab13 ?bb13 ?cb13 ?db13
    case ab13 => (simp only [List.getElem?_toArray, List.getElem?_cons_succ, List.getElem?_cons_zero]; rfl)
    case bb13 => kernel_rfl
    case cb13 => rfl
    intro K hK
    (go_simp; refine (PW.out _ (Kp.refl No w6).drew).mono ?_; rintro e w7 ⟨rfl, hd7, k7⟩)
    refine rg_use hK (⟨(HG7.out _ k7).cell 1, (HG7.out _ k7).cell 3, HP7.out _ k7⟩) (fun hF => ?_)
    clear hK K
    try simp only [Act.put, List.setIfInBounds_toArray, List.set_cons_zero, List.set_cons_succ]
    refine rg_take (i := 14) (v := ?vb14) (by simp only [List.getElem?_toArray, List.getElem?_cons_succ, List.getElem?_cons_zero]; rfl) (by kernel_rfl) (by exact fun _ _ _ h => h) (by rfl) ?rb14 hF ?sb14
    case rb14 => (intro W hW; clear hW; go_simp; try with_reducible rfl)
    try simp only [Act.put, List.setIfInBounds_toArray, List.set_cons_zero, List.set_cons_succ]
    refine rg_done (by kernel_rfl) ?_
    have HK7 := Lib.hid (show Kp (fun q => q = gb ∨ q = db ∨ q = sb) W w7 from (((HKW.out.trans HK6.out).of_no).trans ((Kp.refl _ w6).drew)).then_ k7 fun q _ e => .inr e)
    have HB7 := Lib.hid (HG7.out _ k7)
    have HI7 := Lib.hid (HSI.out _ k7)
    have HD7 := Lib.hid hd7
    clear hd7 k7 hF HG7 HP7 HSI PW
    have HNO := Lib.hid (show (dwriteG d ((g.seq + 1) % 2) (sectG (g.seq + 1) s)).2 ≠ 0 → (dwriteG d ((g.seq + 1) % 2) (sectG (g.seq + 1) s)).2 = 40 from fun h => (dwrite_no h).1)
    have hsz7 : W.heap.size ≤ w7.heap.size := HK7.out.size
    have HHP := Lib.hid HGP
    clear HGP
    generalize hrc : (dwriteG d ((g.seq + 1) % 2) (sectG (g.seq + 1) s)).2 = rc at *
    have HRC := Lib.hid hrc
    clear hrc
    by_cases hz : rc = 0
    · subst hz
      have z3 : w7.cell? ⟨gb, 3, none⟩ = some (.int .i64 (g.seq : Int)) := HB7.out.cell 3
      have f3 := HB7.out.frozen 3
      have hb8 := HB7.out.set_ 3 (.int .i64 ((g.seq : Int) + 1))
      have hk8 : Kp (fun q => q = gb ∨ q = db ∨ q = sb) W (w7.setCell ⟨gb, 3, none⟩ (.int .i64 ((g.seq : Int) + 1))) := HK7.out.set (.inl (.inl rfl)) 3 _
      have hgd : ¬ One gb db ∧ ¬ One gb sb := by
        obtain ⟨sp, hs⟩ := HD7.out.1.se
        exact ⟨fun e => HB7.out.ne_ HD7.out.1.st (by decide) (Eq.symm e), fun e => HB7.out.ne_ hs (by decide) (Eq.symm e)⟩
      have hd8 := HD7.out.kp (M := One gb) ((Kp.refl (One gb) w7).set (.inl rfl) 3 (.int .i64 ((g.seq : Int) + 1))) hgd.1 hgd.2
      have HA8 := Lib.hid (show ArgInts (w7.setCell ⟨gb, 3, none⟩ (.int .i64 ((g.seq : Int) + 1))) (.slice A s.length c) s from by
        have hni : ∀ q cs, Bk W q 3 cs → ¬ (q = gb ∨ q = db ∨ q = sb) := fun q cs hq e => by
          obtain ⟨csg, hbg⟩ := HG.out.bk
          obtain ⟨sp, hss⟩ := HD.out.1.se
          rcases e with e | e | e
          · exact hq.ne_ hbg (by decide) e
          · exact hq.ne_ HD.out.1.st (by decide) e
          · exact hq.ne_ hss (by decide) e
        exact ((HSL2.out.kp HK7.out hni).kp ((Kp.refl (One gb) w7).set (.inl rfl) 3 _) fun q cs hq e => hq.ne_ HB7.out (by decide) e).arg)
      have HB8 := Lib.hid hb8; have HK8 := Lib.hid hk8; have HD8 := Lib.hid hd8; have HGD := Lib.hid hgd
      have hsz8 : W.heap.size ≤ (w7.setCell ⟨gb, 3, none⟩ (.int .i64 ((g.seq : Int) + 1))).heap.size := hk8.size
      have hwrp2 : IntKind.i64.wrap ((g.seq : Int) + 1) = (g.seq : Int) + 1 := IntWalk.i64_in _ (by omega)
      clear hb8 hk8 hd8 hgd
      go_wp2_with (at_builtin; refine (wpList_appV _ rfl _ _ 31 rfl W.heap.size 3 _ 8 Tryz.underlying31 Tryz.infoI rfl _ 0 [] rfl (nil_own _ _ _ _) A s.length c (ints s) rfl (by simp) HA8.out.cs.1 (ints_one _) (by omega) (by omega) hsz8 ?_); intro v1 w8 o1 k1 n1; rw [Nat.zero_add, List.nil_append] at o1; have HO := Lib.hid o1; have HK := Lib.hid (show Kp No (w7.setCell ⟨gb, 3, none⟩ (.int .i64 ((g.seq : Int) + 1))) w8 from k1.mono (fun _ _ h => by cases h)); clear o1 k1 n1; obtain ⟨A1, c1, hv1, _⟩ := own_len HO.out; subst hv1; have hb9 := HB8.out.no HK.out; have y2 : w8.cell? ⟨gb, 2, none⟩ = some (.slice AH g.high.length cH) := hb9.cell 2; have yf := hb9.frozen 2; have HB9 := Lib.hid hb9; clear hb9)
      have hk9 : Kp (One gb) w8 (w8.setCell ⟨gb, 2, none⟩ (.slice A1 s.length c1)) := (Kp.refl (One gb) w8).set (.inl rfl) 2 _
      have HO9 := Lib.hid (own_kp HO.out hk9 fun q e m => by
        have m : q = gb := m
        exact own_ne HO.out HB9.out (by decide) (by rw [e, m]))
      have HB10 := Lib.hid (show Bk (w8.setCell ⟨gb, 2, none⟩ (.slice A1 s.length c1)) gb 78 (gtC n db (.slice A1 s.length c1) ⟨s, g.seq + 1, false⟩) from by
        have h := HB9.out.set_ 2 (.slice A1 s.length c1)
        have e : (gtC n db (.slice A1 s.length c1) ⟨s, g.seq + 1, false⟩) = (((gtC n db (.slice AH g.high.length cH) g).set 3 (.int .i64 ((g.seq : Int) + 1))).set 2 (.slice A1 s.length c1)) := by
          unfold gtC
          rw [HDD.out]
          rfl
        rw [e]; exact h)
      have HD9 := Lib.hid ((HD8.out.no HK.out).kp hk9 HGD.out.1 HGD.out.2)
      have HK9 := Lib.hid ((HK8.out.trans HK.out.of_no).then_ hk9 fun q _ e => .inl e)
      have HOW := Lib.hid (show ∀ q, (Value.slice A1 s.length c1).ownBlock = some q → W.heap.size ≤ q from fun q e => by
        rcases HO9.out.2 with ⟨e2, _⟩ | ⟨g', cap, cur, e2, hg, _⟩
        · rw [e2] at e; simp [Value.ownBlock] at e
        · rw [e2] at e
          have : g' = q := by simpa [Value.ownBlock] using e
          subst this; exact hg)
      clear hk9
      go_wp2
      go_ret
      exact ⟨HK9.out, HD9.out, .inl ⟨HRC.out, rfl, _, HB10.out, own_slI HO9.out, HOW.out⟩⟩
    · have hr := HNO.out hz
      subst hr
      have z4 : w7.cell? ⟨gb, 4, none⟩ = some (.bool g.dead) := HB7.out.cell 4
      have f4 := HB7.out.frozen 4
      have hk8 : Kp (One gb) w7 (w7.setCell ⟨gb, 4, none⟩ (.bool true)) := (Kp.refl (One gb) w7).set (.inl rfl) 4 _
      have HB8 := Lib.hid (show Bk (w7.setCell ⟨gb, 4, none⟩ (.bool true)) gb 78 (gtC n db (.slice AH g.high.length cH) { g with dead := true }) from HB7.out.set_ 4 _)
      have HI8 := Lib.hid (HI7.out.kp hk8 fun q cs hq e => hq.ne_ HB7.out (by decide) e)
      have HK8 := Lib.hid (HK7.out.set (.inl (.inl rfl)) 4 (.bool true))
      have hgd : ¬ One gb db ∧ ¬ One gb sb := by
        obtain ⟨sp, hs⟩ := HD7.out.1.se
        exact ⟨fun e => HB7.out.ne_ HD7.out.1.st (by decide) (Eq.symm e), fun e => HB7.out.ne_ hs (by decide) (Eq.symm e)⟩
      have HD8 := Lib.hid (HD7.out.kp hk8 hgd.1 hgd.2)
      clear hk8 hgd hz HNO
      go_wp2
      go_ret
      exact ⟨HK8.out, HD8.out, .inr ⟨HRC.out, rfl, _, HB8.out, HI8.out, HP.out⟩⟩
end Go.Proofs.YtlgbmkdeamgpkaaGreatDoor

/- The gate's Handle by contract. No condition beyond what each theorem states. -/
namespace Go.Proofs.YtlgbmkdeamgpkaaGreatDoor
open Go Go.RowKit Go.PlainAid

set_option maxRecDepth 100000 in
set_option maxHeartbeats 4000000 in
theorem handle_kind (gb db : Nat) (n : Int) (g : Gat) (P : Nat → Prop) (m : Msg) (A : Option Addr) (c : Nat) (W : World) (hG : GtB W P gb db n g) (hs : SlI W (.slice A m.stamp.length c) m.stamp) (hr : Rng m) (hsh : Short maxLen m) (hn : ¬ (m.kind = 5 ∧ m.dest = n ∧ mayS vpP m)) :
    Calls Tryz.prog 15 #[.pointer (some ⟨gb, 0, none⟩), .agg (mcells m (.slice A m.stamp.length c)).toArray] W fun e w' => e = .returned (.int .i64 22) ∧ Kp No W w' := by
  obtain ⟨CM, hCM⟩ : ∃ C, C = mcells m (.slice A m.stamp.length c) := ⟨_, rfl⟩
  have HiM : Hid ((Tryz.prog.info? 38).map (·.size) = some CM.length) := Lib.hid (by rw [hCM]; kernel_rfl)
  have HM := Lib.hid (show Bk (W.alloc (.cells CM.toArray 38)) W.heap.size 38 CM from Bk.new' rfl rfl)
  have HK := Lib.hid ((Kp.refl No W).alloc (.cells CM.toArray 38))
  obtain ⟨hv, hb, _, _⟩ := hG
  have HB := Lib.hid (hb.no HK.out)
  have PV := Lib.hid (show ∀ W2, Kp No (W.alloc (.cells CM.toArray 38)) W2 → Calls Tryz.prog 40 #[.agg CM.toArray] W2 (fun e w' => e = .returned (.bool (decide (mayS vpP m))) ∧ Kp No (W.alloc (.cells CM.toArray 38)) w') from fun W2 kk => by
    rw [hCM]
    exact (valid10_any m (.slice A m.stamp.length c) W2 ((hs.no HK.out).no (hCM ▸ kk)) hr hsh).mono fun e w' h => ⟨h.1, hCM ▸ (kk.trans h.2)⟩)
  have hF : (fun W2 => W2.cell? ⟨W.heap.size, 0, none⟩ = some (.int .i64 m.kind) ∧ W2.cell? ⟨W.heap.size, 2, none⟩ = some (.int .i64 m.dest) ∧ W2.cell? ⟨gb, 0, none⟩ = some (.int .i64 n) ∧ W2.rangeAt W.heap.size 0 CM) (W.alloc (.cells CM.toArray 38)).drew := ⟨by rw [hCM]; exact (hCM ▸ HM.out).cell 0, by rw [hCM]; exact (hCM ▸ HM.out).cell 2, HB.out.cell 0, fun j v hv => by rw [Nat.zero_add]; exact (HM.out.cell j).trans hv⟩
  have HFK := Lib.hid (show ∀ w5, Kp No (W.alloc (.cells CM.toArray 38)) w5 → (fun W2 => W2.cell? ⟨W.heap.size, 0, none⟩ = some (.int .i64 m.kind) ∧ W2.cell? ⟨W.heap.size, 2, none⟩ = some (.int .i64 m.dest) ∧ W2.cell? ⟨gb, 0, none⟩ = some (.int .i64 n) ∧ W2.rangeAt W.heap.size 0 CM) w5 from fun w5 kk => ⟨by rw [((HM.out.no kk).cell 0), hCM]; rfl, by rw [((HM.out.no kk).cell 2), hCM]; rfl, (HB.out.no kk).cell 0, fun j v hv => by rw [Nat.zero_add]; exact ((HM.out.no kk).cell j).trans hv⟩)
  have HN := Lib.hid hn
  rw [← hCM]
  clear hCM hb hs hr hsh hn
  go_enter Tryz.func15, Tryz.ntmps15
  go_upto_region 3 with (fail)
  by_cases h1 : m.kind = 5
  · have d1 : (m.kind != 5) = false := by rw [bne_eq_false_iff_eq]; exact h1
    by_cases h2 : m.dest = n
    · have d2 : (m.dest != n) = false := by rw [bne_eq_false_iff_eq]; exact h2
      have h3 : ¬ mayS vpP m := fun h => HN.out ⟨h1, h2, h⟩
      rw [show decide (mayS vpP m) = false from decide_eq_false h3] at PV
      clear h1 h2 h3
      refine rg_begin (fun W2 => W2.cell? ⟨W.heap.size, 0, none⟩ = some (.int .i64 m.kind) ∧ W2.cell? ⟨W.heap.size, 2, none⟩ = some (.int .i64 m.dest) ∧ W2.cell? ⟨gb, 0, none⟩ = some (.int .i64 n) ∧ W2.rangeAt W.heap.size 0 CM) 18 (by kernel_rfl) ?_
      refine rg_take (i := 0) (v := ?va0) (by simp only [List.getElem?_toArray, List.getElem?_cons_zero]; rfl) (by kernel_rfl) (by exact fun _ _ _ h => h) (by rfl) ?ra0 hF ?sa0
      case ra0 => (intro W hW; clear hW; go_simp; try with_reducible rfl)
      try simp only [Act.put, List.setIfInBounds_toArray, List.set_cons_zero, List.set_cons_succ]
      refine rg_take (i := 1) (v := ?va1) (by simp only [List.getElem?_toArray, List.getElem?_cons_succ, List.getElem?_cons_zero]; rfl) (by kernel_rfl) (by exact fun _ _ _ h => h) (by rfl) ?ra1 hF ?sa1
      case ra1 => (intro W9 hW; obtain ⟨f1, f2, f3, f4⟩ := hW; go_simp; try with_reducible rfl)
      try simp only [Act.put, List.setIfInBounds_toArray, List.set_cons_zero, List.set_cons_succ]
      refine rg_take (i := 2) (v := ?va2) (by simp only [List.getElem?_toArray, List.getElem?_cons_succ, List.getElem?_cons_zero]; rfl) (by kernel_rfl) (by exact fun _ _ _ h => h) (by rfl) ?ra2 hF ?sa2
      case ra2 => (intro W hW; clear hW; go_simp; try with_reducible rfl)
      try simp only [Act.put, List.setIfInBounds_toArray, List.set_cons_zero, List.set_cons_succ]
      refine rg_take (i := 3) (v := ?va3) (by simp only [List.getElem?_toArray, List.getElem?_cons_succ, List.getElem?_cons_zero]; rfl) (by kernel_rfl) (by exact fun _ _ _ h => h) (by rfl) ?ra3 hF ?sa3
      case ra3 => (intro W hW; clear hW; go_simp; try with_reducible rfl)
      try simp only [Act.put, List.setIfInBounds_toArray, List.set_cons_zero, List.set_cons_succ]
      refine rg_take (i := 4) (v := ?va4) (by simp only [List.getElem?_toArray, List.getElem?_cons_succ, List.getElem?_cons_zero]; rfl) (by kernel_rfl) (by exact fun _ _ _ h => h) (by rfl) ?ra4 hF ?sa4
      case ra4 => (intro W hW; clear hW; go_simp; try with_reducible rfl)
      try simp only [Act.put, List.setIfInBounds_toArray, List.set_cons_zero, List.set_cons_succ]
      refine rg_take (i := 5) (v := ?va5) (by simp only [List.getElem?_toArray, List.getElem?_cons_succ, List.getElem?_cons_zero]; rfl) (by kernel_rfl) (by exact fun _ _ _ h => h) (by rfl) ?ra5 hF ?sa5
      case ra5 => (intro W9 hW; obtain ⟨f1, f2, f3, f4⟩ := hW; go_simp; try with_reducible rfl)
      try simp only [Act.put, List.setIfInBounds_toArray, List.set_cons_zero, List.set_cons_succ]
      refine rg_take (i := 6) (v := ?va6) (by simp only [List.getElem?_toArray, List.getElem?_cons_succ, List.getElem?_cons_zero]; rfl) (by kernel_rfl) (by exact fun _ _ _ h => h) (by rfl) ?ra6 hF ?sa6
      case ra6 => (intro W hW; clear hW; go_simp; try with_reducible rfl)
      try simp only [Act.put, List.setIfInBounds_toArray, List.set_cons_zero, List.set_cons_succ]
      refine rg_take (i := 7) (v := ?va7) (by simp only [List.getElem?_toArray, List.getElem?_cons_succ, List.getElem?_cons_zero]; rfl) (by kernel_rfl) (by exact fun _ _ _ h => h) (by rfl) ?ra7 hF ?sa7
      case ra7 => (intro W hW; clear hW; go_simp; try with_reducible rfl)
      try simp only [Act.put, List.setIfInBounds_toArray, List.set_cons_zero, List.set_cons_succ]
      refine rg_take (i := 8) (v := ?va8) (by simp only [List.getElem?_toArray, List.getElem?_cons_succ, List.getElem?_cons_zero]; rfl) (by kernel_rfl) (by exact fun _ _ _ h => h) (by rfl) ?ra8 hF ?sa8
      case ra8 => (intro W hW; clear hW; go_simp; try with_reducible rfl)
      try simp only [Act.put, List.setIfInBounds_toArray, List.set_cons_zero, List.set_cons_succ]
      refine rg_take (i := 9) (v := ?va9) (by simp only [List.getElem?_toArray, List.getElem?_cons_succ, List.getElem?_cons_zero]; rfl) (by kernel_rfl) (by exact fun _ _ _ h => h) (by rfl) ?ra9 hF ?sa9
      case ra9 => (intro W9 hW; obtain ⟨f1, f2, f3, f4⟩ := hW; go_simp; try with_reducible rfl)
      try simp only [Act.put, List.setIfInBounds_toArray, List.set_cons_zero, List.set_cons_succ]
      refine rg_take (i := 10) (v := ?va10) (by simp only [List.getElem?_toArray, List.getElem?_cons_succ, List.getElem?_cons_zero]; rfl) (by kernel_rfl) (by exact fun _ _ _ h => h) (by rfl) ?ra10 hF ?sa10
      case ra10 => (intro W hW; clear hW; go_simp; try with_reducible rfl)
      try simp only [Act.put, List.setIfInBounds_toArray, List.set_cons_zero, List.set_cons_succ]
      refine rg_take (i := 11) (v := ?va11) (by simp only [List.getElem?_toArray, List.getElem?_cons_succ, List.getElem?_cons_zero]; rfl) (by kernel_rfl) (by exact fun _ _ _ h => h) (by rfl) ?ra11 hF ?sa11
      case ra11 => (intro W hW; clear hW; go_simp; try with_reducible rfl)
      try simp only [Act.put, List.setIfInBounds_toArray, List.set_cons_zero, List.set_cons_succ]
      refine rg_take (i := 12) (v := ?va12) (by simp only [List.getElem?_toArray, List.getElem?_cons_succ, List.getElem?_cons_zero]; rfl) (by kernel_rfl) (by exact fun _ _ _ h => h) (by rfl) ?ra12 hF ?sa12
      case ra12 => (intro W hW; clear hW; go_simp; try with_reducible rfl)
      try simp only [Act.put, List.setIfInBounds_toArray, List.set_cons_zero, List.set_cons_succ]
      refine rg_take (i := 13) (v := ?va13) (by simp only [List.getElem?_toArray, List.getElem?_cons_succ, List.getElem?_cons_zero]; rfl) (by kernel_rfl) (by exact fun _ _ _ h => h) (by rfl) ?ra13 hF ?sa13
      case ra13 => (intro W9 hW; refine exec_load_mid W9 38 (.tmp 3) ?_ W.heap.size 0 ?_ CM _ hW.2.2.2 Tryz.underlying38 ?_ HiM.out; exact rfl; exact rfl; exact rfl)
      try simp only [Act.put, List.setIfInBounds_toArray, List.set_cons_zero, List.set_cons_succ]
      refine rg_one (i := 14) (oi := ?oa14) ?aa14 ?ba14 ?ca14 ?da14
      case aa14 => (simp only [List.getElem?_toArray, List.getElem?_cons_succ, List.getElem?_cons_zero]; rfl)
      case ba14 => kernel_rfl
      case ca14 => rfl
      intro K hK
      (go_simp; refine (PV.out _ (Kp.refl No (W.alloc (.cells CM.toArray 38))).drew).mono ?_; rintro e w5 ⟨rfl, k5⟩)
      refine rg_use hK (HFK.out _ k5) (fun hF => ?_)
      clear hK K
      try simp only [Act.put, List.setIfInBounds_toArray, List.set_cons_zero, List.set_cons_succ]
      refine rg_take (i := 15) (v := ?va15) (by simp only [List.getElem?_toArray, List.getElem?_cons_succ, List.getElem?_cons_zero]; rfl) (by kernel_rfl) (by exact fun _ _ _ h => h) (by rfl) ?ra15 hF ?sa15
      case ra15 => (intro W hW; clear hW; go_simp; try with_reducible rfl)
      try simp only [Act.put, List.setIfInBounds_toArray, List.set_cons_zero, List.set_cons_succ]
      refine rg_take (i := 16) (v := ?va16) (by simp only [List.getElem?_toArray, List.getElem?_cons_succ, List.getElem?_cons_zero]; rfl) (by kernel_rfl) (by exact fun _ _ _ h => h) (by rfl) ?ra16 hF ?sa16
      case ra16 => (intro W hW; clear hW; go_simp; try with_reducible rfl)
      try simp only [Act.put, List.setIfInBounds_toArray, List.set_cons_zero, List.set_cons_succ]
      refine rg_take (i := 17) (v := ?va17) (by simp only [List.getElem?_toArray, List.getElem?_cons_succ, List.getElem?_cons_zero]; rfl) (by kernel_rfl) (by exact fun _ _ _ h => h) (by rfl) ?ra17 hF ?sa17
      case ra17 => (intro W hW; clear hW; go_simp; try with_reducible rfl)
      try simp only [Act.put, List.setIfInBounds_toArray, List.set_cons_zero, List.set_cons_succ]
      refine rg_done (by kernel_rfl) ?_
      go_wp2
      go_ret
      exact ⟨rfl, HK.out.trans k5⟩
    · have d2 : (m.dest != n) = true := by rw [bne_iff_ne]; exact h2
      clear h1 h2
      refine rg_begin (fun W2 => W2.cell? ⟨W.heap.size, 0, none⟩ = some (.int .i64 m.kind) ∧ W2.cell? ⟨W.heap.size, 2, none⟩ = some (.int .i64 m.dest) ∧ W2.cell? ⟨gb, 0, none⟩ = some (.int .i64 n) ∧ W2.rangeAt W.heap.size 0 CM) 18 (by kernel_rfl) ?_
      refine rg_take (i := 0) (v := ?vb0) (by simp only [List.getElem?_toArray, List.getElem?_cons_zero]; rfl) (by kernel_rfl) (by exact fun _ _ _ h => h) (by rfl) ?rb0 hF ?sb0
      case rb0 => (intro W hW; clear hW; go_simp; try with_reducible rfl)
      try simp only [Act.put, List.setIfInBounds_toArray, List.set_cons_zero, List.set_cons_succ]
      refine rg_take (i := 1) (v := ?vb1) (by simp only [List.getElem?_toArray, List.getElem?_cons_succ, List.getElem?_cons_zero]; rfl) (by kernel_rfl) (by exact fun _ _ _ h => h) (by rfl) ?rb1 hF ?sb1
      case rb1 => (intro W9 hW; obtain ⟨f1, f2, f3, f4⟩ := hW; go_simp; try with_reducible rfl)
      try simp only [Act.put, List.setIfInBounds_toArray, List.set_cons_zero, List.set_cons_succ]
      refine rg_take (i := 2) (v := ?vb2) (by simp only [List.getElem?_toArray, List.getElem?_cons_succ, List.getElem?_cons_zero]; rfl) (by kernel_rfl) (by exact fun _ _ _ h => h) (by rfl) ?rb2 hF ?sb2
      case rb2 => (intro W hW; clear hW; go_simp; try with_reducible rfl)
      try simp only [Act.put, List.setIfInBounds_toArray, List.set_cons_zero, List.set_cons_succ]
      refine rg_take (i := 3) (v := ?vb3) (by simp only [List.getElem?_toArray, List.getElem?_cons_succ, List.getElem?_cons_zero]; rfl) (by kernel_rfl) (by exact fun _ _ _ h => h) (by rfl) ?rb3 hF ?sb3
      case rb3 => (intro W hW; clear hW; go_simp; try with_reducible rfl)
      try simp only [Act.put, List.setIfInBounds_toArray, List.set_cons_zero, List.set_cons_succ]
      refine rg_take (i := 4) (v := ?vb4) (by simp only [List.getElem?_toArray, List.getElem?_cons_succ, List.getElem?_cons_zero]; rfl) (by kernel_rfl) (by exact fun _ _ _ h => h) (by rfl) ?rb4 hF ?sb4
      case rb4 => (intro W hW; clear hW; go_simp; try with_reducible rfl)
      try simp only [Act.put, List.setIfInBounds_toArray, List.set_cons_zero, List.set_cons_succ]
      refine rg_take (i := 5) (v := ?vb5) (by simp only [List.getElem?_toArray, List.getElem?_cons_succ, List.getElem?_cons_zero]; rfl) (by kernel_rfl) (by exact fun _ _ _ h => h) (by rfl) ?rb5 hF ?sb5
      case rb5 => (intro W9 hW; obtain ⟨f1, f2, f3, f4⟩ := hW; go_simp; try with_reducible rfl)
      try simp only [Act.put, List.setIfInBounds_toArray, List.set_cons_zero, List.set_cons_succ]
      refine rg_take (i := 6) (v := ?vb6) (by simp only [List.getElem?_toArray, List.getElem?_cons_succ, List.getElem?_cons_zero]; rfl) (by kernel_rfl) (by exact fun _ _ _ h => h) (by rfl) ?rb6 hF ?sb6
      case rb6 => (intro W hW; clear hW; go_simp; try with_reducible rfl)
      try simp only [Act.put, List.setIfInBounds_toArray, List.set_cons_zero, List.set_cons_succ]
      refine rg_take (i := 7) (v := ?vb7) (by simp only [List.getElem?_toArray, List.getElem?_cons_succ, List.getElem?_cons_zero]; rfl) (by kernel_rfl) (by exact fun _ _ _ h => h) (by rfl) ?rb7 hF ?sb7
      case rb7 => (intro W hW; clear hW; go_simp; try with_reducible rfl)
      try simp only [Act.put, List.setIfInBounds_toArray, List.set_cons_zero, List.set_cons_succ]
      refine rg_take (i := 8) (v := ?vb8) (by simp only [List.getElem?_toArray, List.getElem?_cons_succ, List.getElem?_cons_zero]; rfl) (by kernel_rfl) (by exact fun _ _ _ h => h) (by rfl) ?rb8 hF ?sb8
      case rb8 => (intro W hW; clear hW; go_simp; try with_reducible rfl)
      try simp only [Act.put, List.setIfInBounds_toArray, List.set_cons_zero, List.set_cons_succ]
      refine rg_take (i := 9) (v := ?vb9) (by simp only [List.getElem?_toArray, List.getElem?_cons_succ, List.getElem?_cons_zero]; rfl) (by kernel_rfl) (by exact fun _ _ _ h => h) (by rfl) ?rb9 hF ?sb9
      case rb9 => (intro W9 hW; obtain ⟨f1, f2, f3, f4⟩ := hW; go_simp; try with_reducible rfl)
      try simp only [Act.put, List.setIfInBounds_toArray, List.set_cons_zero, List.set_cons_succ]
      refine rg_take (i := 10) (v := ?vb10) (by simp only [List.getElem?_toArray, List.getElem?_cons_succ, List.getElem?_cons_zero]; rfl) (by kernel_rfl) (by exact fun _ _ _ h => h) (by rfl) ?rb10 hF ?sb10
      case rb10 => (intro W hW; clear hW; go_simp; try with_reducible rfl)
      try simp only [Act.put, List.setIfInBounds_toArray, List.set_cons_zero, List.set_cons_succ]
      refine rg_take (i := 11) (v := ?vb11) (by simp only [List.getElem?_toArray, List.getElem?_cons_succ, List.getElem?_cons_zero]; rfl) (by kernel_rfl) (by exact fun _ _ _ h => h) (by rfl) ?rb11 hF ?sb11
      case rb11 => (intro W hW; clear hW; go_simp; try with_reducible rfl)
      try simp only [Act.put, List.setIfInBounds_toArray, List.set_cons_zero, List.set_cons_succ]
      refine rg_take (i := 12) (v := ?vb12) (by simp only [List.getElem?_toArray, List.getElem?_cons_succ, List.getElem?_cons_zero]; rfl) (by kernel_rfl) (by exact fun _ _ _ h => h) (by rfl) ?rb12 hF ?sb12
      case rb12 => (intro W hW; clear hW; go_simp; try with_reducible rfl)
      try simp only [Act.put, List.setIfInBounds_toArray, List.set_cons_zero, List.set_cons_succ]
      refine rg_pass (i := 13) (by simp only [List.getElem?_toArray, List.getElem?_cons_succ, List.getElem?_cons_zero]; rfl) (by kernel_rfl) (by exact fun _ _ _ h => h) (by rfl) hF ?_
      try simp only [Act.put, List.setIfInBounds_toArray, List.set_cons_zero, List.set_cons_succ]
      refine rg_pass (i := 14) (by simp only [List.getElem?_toArray, List.getElem?_cons_succ, List.getElem?_cons_zero]; rfl) (by kernel_rfl) (by exact fun _ _ _ h => h) (by rfl) hF ?_
      try simp only [Act.put, List.setIfInBounds_toArray, List.set_cons_zero, List.set_cons_succ]
      refine rg_pass (i := 15) (by simp only [List.getElem?_toArray, List.getElem?_cons_succ, List.getElem?_cons_zero]; rfl) (by kernel_rfl) (by exact fun _ _ _ h => h) (by rfl) hF ?_
      try simp only [Act.put, List.setIfInBounds_toArray, List.set_cons_zero, List.set_cons_succ]
      refine rg_take (i := 16) (v := ?vb16) (by simp only [List.getElem?_toArray, List.getElem?_cons_succ, List.getElem?_cons_zero]; rfl) (by kernel_rfl) (by exact fun _ _ _ h => h) (by rfl) ?rb16 hF ?sb16
      case rb16 => (intro W hW; clear hW; go_simp; try with_reducible rfl)
      try simp only [Act.put, List.setIfInBounds_toArray, List.set_cons_zero, List.set_cons_succ]
      refine rg_take (i := 17) (v := ?vb17) (by simp only [List.getElem?_toArray, List.getElem?_cons_succ, List.getElem?_cons_zero]; rfl) (by kernel_rfl) (by exact fun _ _ _ h => h) (by rfl) ?rb17 hF ?sb17
      case rb17 => (intro W hW; clear hW; go_simp; try with_reducible rfl)
      try simp only [Act.put, List.setIfInBounds_toArray, List.set_cons_zero, List.set_cons_succ]
      refine rg_done (by kernel_rfl) ?_
      go_wp2
      go_ret
      exact ⟨rfl, HK.out.drew⟩
  · have d1 : (m.kind != 5) = true := by rw [bne_iff_ne]; exact h1
    clear h1
    refine rg_begin (fun W2 => W2.cell? ⟨W.heap.size, 0, none⟩ = some (.int .i64 m.kind) ∧ W2.cell? ⟨W.heap.size, 2, none⟩ = some (.int .i64 m.dest) ∧ W2.cell? ⟨gb, 0, none⟩ = some (.int .i64 n) ∧ W2.rangeAt W.heap.size 0 CM) 18 (by kernel_rfl) ?_
    refine rg_take (i := 0) (v := ?vc0) (by simp only [List.getElem?_toArray, List.getElem?_cons_zero]; rfl) (by kernel_rfl) (by exact fun _ _ _ h => h) (by rfl) ?rc0 hF ?sc0
    case rc0 => (intro W hW; clear hW; go_simp; try with_reducible rfl)
    try simp only [Act.put, List.setIfInBounds_toArray, List.set_cons_zero, List.set_cons_succ]
    refine rg_take (i := 1) (v := ?vc1) (by simp only [List.getElem?_toArray, List.getElem?_cons_succ, List.getElem?_cons_zero]; rfl) (by kernel_rfl) (by exact fun _ _ _ h => h) (by rfl) ?rc1 hF ?sc1
    case rc1 => (intro W9 hW; obtain ⟨f1, f2, f3, f4⟩ := hW; go_simp; try with_reducible rfl)
    try simp only [Act.put, List.setIfInBounds_toArray, List.set_cons_zero, List.set_cons_succ]
    refine rg_take (i := 2) (v := ?vc2) (by simp only [List.getElem?_toArray, List.getElem?_cons_succ, List.getElem?_cons_zero]; rfl) (by kernel_rfl) (by exact fun _ _ _ h => h) (by rfl) ?rc2 hF ?sc2
    case rc2 => (intro W hW; clear hW; go_simp; try with_reducible rfl)
    try simp only [Act.put, List.setIfInBounds_toArray, List.set_cons_zero, List.set_cons_succ]
    refine rg_take (i := 3) (v := ?vc3) (by simp only [List.getElem?_toArray, List.getElem?_cons_succ, List.getElem?_cons_zero]; rfl) (by kernel_rfl) (by exact fun _ _ _ h => h) (by rfl) ?rc3 hF ?sc3
    case rc3 => (intro W hW; clear hW; go_simp; try with_reducible rfl)
    try simp only [Act.put, List.setIfInBounds_toArray, List.set_cons_zero, List.set_cons_succ]
    refine rg_pass (i := 4) (by simp only [List.getElem?_toArray, List.getElem?_cons_succ, List.getElem?_cons_zero]; rfl) (by kernel_rfl) (by exact fun _ _ _ h => h) (by rfl) hF ?_
    try simp only [Act.put, List.setIfInBounds_toArray, List.set_cons_zero, List.set_cons_succ]
    refine rg_pass (i := 5) (by simp only [List.getElem?_toArray, List.getElem?_cons_succ, List.getElem?_cons_zero]; rfl) (by kernel_rfl) (by exact fun _ _ _ h => h) (by rfl) hF ?_
    try simp only [Act.put, List.setIfInBounds_toArray, List.set_cons_zero, List.set_cons_succ]
    refine rg_pass (i := 6) (by simp only [List.getElem?_toArray, List.getElem?_cons_succ, List.getElem?_cons_zero]; rfl) (by kernel_rfl) (by exact fun _ _ _ h => h) (by rfl) hF ?_
    try simp only [Act.put, List.setIfInBounds_toArray, List.set_cons_zero, List.set_cons_succ]
    refine rg_pass (i := 7) (by simp only [List.getElem?_toArray, List.getElem?_cons_succ, List.getElem?_cons_zero]; rfl) (by kernel_rfl) (by exact fun _ _ _ h => h) (by rfl) hF ?_
    try simp only [Act.put, List.setIfInBounds_toArray, List.set_cons_zero, List.set_cons_succ]
    refine rg_pass (i := 8) (by simp only [List.getElem?_toArray, List.getElem?_cons_succ, List.getElem?_cons_zero]; rfl) (by kernel_rfl) (by exact fun _ _ _ h => h) (by rfl) hF ?_
    try simp only [Act.put, List.setIfInBounds_toArray, List.set_cons_zero, List.set_cons_succ]
    refine rg_pass (i := 9) (by simp only [List.getElem?_toArray, List.getElem?_cons_succ, List.getElem?_cons_zero]; rfl) (by kernel_rfl) (by exact fun _ _ _ h => h) (by rfl) hF ?_
    try simp only [Act.put, List.setIfInBounds_toArray, List.set_cons_zero, List.set_cons_succ]
    refine rg_pass (i := 10) (by simp only [List.getElem?_toArray, List.getElem?_cons_succ, List.getElem?_cons_zero]; rfl) (by kernel_rfl) (by exact fun _ _ _ h => h) (by rfl) hF ?_
    try simp only [Act.put, List.setIfInBounds_toArray, List.set_cons_zero, List.set_cons_succ]
    refine rg_take (i := 11) (v := ?vc11) (by simp only [List.getElem?_toArray, List.getElem?_cons_succ, List.getElem?_cons_zero]; rfl) (by kernel_rfl) (by exact fun _ _ _ h => h) (by rfl) ?rc11 hF ?sc11
    case rc11 => (intro W hW; clear hW; go_simp; try with_reducible rfl)
    try simp only [Act.put, List.setIfInBounds_toArray, List.set_cons_zero, List.set_cons_succ]
    refine rg_take (i := 12) (v := ?vc12) (by simp only [List.getElem?_toArray, List.getElem?_cons_succ, List.getElem?_cons_zero]; rfl) (by kernel_rfl) (by exact fun _ _ _ h => h) (by rfl) ?rc12 hF ?sc12
    case rc12 => (intro W hW; clear hW; go_simp; try with_reducible rfl)
    try simp only [Act.put, List.setIfInBounds_toArray, List.set_cons_zero, List.set_cons_succ]
    refine rg_pass (i := 13) (by simp only [List.getElem?_toArray, List.getElem?_cons_succ, List.getElem?_cons_zero]; rfl) (by kernel_rfl) (by exact fun _ _ _ h => h) (by rfl) hF ?_
    try simp only [Act.put, List.setIfInBounds_toArray, List.set_cons_zero, List.set_cons_succ]
    refine rg_pass (i := 14) (by simp only [List.getElem?_toArray, List.getElem?_cons_succ, List.getElem?_cons_zero]; rfl) (by kernel_rfl) (by exact fun _ _ _ h => h) (by rfl) hF ?_
    try simp only [Act.put, List.setIfInBounds_toArray, List.set_cons_zero, List.set_cons_succ]
    refine rg_pass (i := 15) (by simp only [List.getElem?_toArray, List.getElem?_cons_succ, List.getElem?_cons_zero]; rfl) (by kernel_rfl) (by exact fun _ _ _ h => h) (by rfl) hF ?_
    try simp only [Act.put, List.setIfInBounds_toArray, List.set_cons_zero, List.set_cons_succ]
    refine rg_take (i := 16) (v := ?vc16) (by simp only [List.getElem?_toArray, List.getElem?_cons_succ, List.getElem?_cons_zero]; rfl) (by kernel_rfl) (by exact fun _ _ _ h => h) (by rfl) ?rc16 hF ?sc16
    case rc16 => (intro W hW; clear hW; go_simp; try with_reducible rfl)
    try simp only [Act.put, List.setIfInBounds_toArray, List.set_cons_zero, List.set_cons_succ]
    refine rg_take (i := 17) (v := ?vc17) (by simp only [List.getElem?_toArray, List.getElem?_cons_succ, List.getElem?_cons_zero]; rfl) (by kernel_rfl) (by exact fun _ _ _ h => h) (by rfl) ?rc17 hF ?sc17
    case rc17 => (intro W hW; clear hW; go_simp; try with_reducible rfl)
    try simp only [Act.put, List.setIfInBounds_toArray, List.set_cons_zero, List.set_cons_succ]
    refine rg_done (by kernel_rfl) ?_
    go_wp2
    go_ret
    exact ⟨rfl, HK.out.drew⟩
end Go.Proofs.YtlgbmkdeamgpkaaGreatDoor

/- The gate's Handle of an operation by contract. No condition beyond what each theorem states. -/
namespace Go.Proofs.YtlgbmkdeamgpkaaGreatDoor
open Go Go.RowKit Go.PlainAid

theorem may_op {m : Msg} (h : mayS vpP m) (hk : m.kind = 5) : validS m.stamp = true := by
  obtain ⟨_, _, _, h⟩ := h
  unfold fineS at h
  rw [if_neg (by omega), if_neg (by omega), if_neg (by omega), if_neg (by omega), if_pos hk] at h
  obtain ⟨_, _, _, _, h1, h2⟩ := h
  unfold validS
  rw [Bool.and_eq_true, decide_eq_true_iff, List.all_eq_true]
  refine ⟨h1, fun x hx => ?_⟩
  have := h2 x hx
  unfold cntI at this
  unfold okN
  rw [decide_eq_true_iff]; exact this
theorem hand_op {n : Int} {g : Gat} {d : Dsk} {m : Msg} (h : m.kind = 5 ∧ m.dest = n ∧ mayS vpP m) : handleG n g d m =
    if g.dead = true then (g, d, 40) else if cmpS m.stamp g.high < 0 then (g, d, 65) else if cmpS m.stamp g.high = 0 then (g, d, 0) else if 1073741824 ≤ g.seq then (g, d, 42)
    else if (dwriteG d ((g.seq + 1) % 2) (sectG (g.seq + 1) m.stamp)).2 = 0 then (⟨m.stamp, g.seq + 1, false⟩, (dwriteG d ((g.seq + 1) % 2) (sectG (g.seq + 1) m.stamp)).1, 0)
    else ({ g with dead := true }, (dwriteG d ((g.seq + 1) % 2) (sectG (g.seq + 1) m.stamp)).1, 40) := by
  unfold handleG
  rw [if_neg (fun h2 => h2 h)]
def HandR (W : World) (gb db sb cap : Nat) (n : Int) (P : Nat → Prop) (g : Gat) (d : Dsk) (m : Msg) (e : Ending) (w' : World) : Prop :=
  e = .returned (.int .i64 (handleG n g d m).2.2) ∧ GtB w' (fun q => P q ∨ W.heap.size ≤ q) gb db n (handleG n g d m).1 ∧ DkB w' db sb cap (handleG n g d m).2.1 ∧ Kp (fun q => q = gb ∨ q = db ∨ q = sb) W w'
set_option maxRecDepth 100000 in
set_option maxHeartbeats 4000000 in
theorem handle_op (gb db sb cap : Nat) (n : Int) (g : Gat) (d : Dsk) (P : Nat → Prop) (m : Msg) (A : Option Addr) (c : Nat) (W : World) (hG : GtB W P gb db n g) (hD : DkB W db sb cap d) (hs : SlI W (.slice A m.stamp.length c) m.stamp) (hr : Rng m) (hsh : Short maxLen m) (hn : m.kind = 5 ∧ m.dest = n ∧ mayS vpP m)
    (hh : g.high.length ≤ 4) (hL : d.L.length = 2) (hw : d.wr < 4611686018427387904) :
    Calls Tryz.prog 15 #[.pointer (some ⟨gb, 0, none⟩), .agg (mcells m (.slice A m.stamp.length c)).toArray] W (HandR W gb db sb cap n P g d m) := by
  have hv := may_op hn.2.2 hn.1
  have HV := Lib.hid hv; have HN := Lib.hid hn; have HL := Lib.hid hL; have HW := Lib.hid hw; have HHH := Lib.hid hh
  have hm4 := valid_len hv
  obtain ⟨CM, hCM⟩ : ∃ C, C = (mcells m (.slice A m.stamp.length c)) := ⟨_, rfl⟩
  have HiM : Hid ((Tryz.prog.info? 38).map (·.size) = some CM.length) := Lib.hid (by rw [hCM]; kernel_rfl)
  have HM := Lib.hid (show Bk (W.alloc (.cells CM.toArray 38)) W.heap.size 38 CM from Bk.new' rfl rfl)
  have HK := Lib.hid ((Kp.refl No W).alloc (.cells CM.toArray 38))
  have HCM := Lib.hid hCM; have HG := Lib.hid hG; have HD := Lib.hid hD; have HS := Lib.hid hs
  obtain ⟨hvv, hb, hsl, hp⟩ := hG
  obtain ⟨AH, cH, rfl, _⟩ := id hsl
  have HSL := Lib.hid hsl
  have HB := Lib.hid (hb.no HK.out)
  have PV := Lib.hid (show ∀ W2, Kp No (W.alloc (.cells CM.toArray 38)) W2 → Calls Tryz.prog 40 #[.agg CM.toArray] W2 (fun e w' => e = .returned (.bool true) ∧ Kp No (W.alloc (.cells CM.toArray 38)) w') from fun W2 kk => by
    rw [hCM]
    exact (valid10_any m (.slice A m.stamp.length c) W2 ((hs.no HK.out).no (hCM ▸ kk)) hr hsh).mono fun e w' h => ⟨by rw [decide_eq_true hn.2.2] at h; exact h.1, hCM ▸ (kk.trans h.2)⟩)
  have hF : (fun W2 => W2.cell? ⟨W.heap.size, 0, none⟩ = some (.int .i64 m.kind) ∧ W2.cell? ⟨W.heap.size, 2, none⟩ = some (.int .i64 m.dest) ∧ W2.cell? ⟨gb, 0, none⟩ = some (.int .i64 n) ∧ W2.rangeAt W.heap.size 0 CM) (W.alloc (.cells CM.toArray 38)).drew := ⟨by rw [hCM]; exact (hCM ▸ HM.out).cell 0, by rw [hCM]; exact (hCM ▸ HM.out).cell 2, HB.out.cell 0, fun j v hv => by rw [Nat.zero_add]; exact (HM.out.cell j).trans hv⟩
  have HFK := Lib.hid (show ∀ w5, Kp No (W.alloc (.cells CM.toArray 38)) w5 → (fun W2 => W2.cell? ⟨W.heap.size, 0, none⟩ = some (.int .i64 m.kind) ∧ W2.cell? ⟨W.heap.size, 2, none⟩ = some (.int .i64 m.dest) ∧ W2.cell? ⟨gb, 0, none⟩ = some (.int .i64 n) ∧ W2.rangeAt W.heap.size 0 CM) w5 from fun w5 kk => ⟨by rw [((HM.out.no kk).cell 0), hCM]; rfl, by rw [((HM.out.no kk).cell 2), hCM]; rfl, (HB.out.no kk).cell 0, fun j v hv => by rw [Nat.zero_add]; exact ((HM.out.no kk).cell j).trans hv⟩)
  have d1 : (m.kind != 5) = false := by rw [bne_eq_false_iff_eq]; exact hn.1
  have d2 : (m.dest != n) = false := by rw [bne_eq_false_iff_eq]; exact hn.2.1
  rw [← hCM]
  clear hCM hb hs hr hsh hn hD hsl hp hv hL hw hh
  go_enter Tryz.func15, Tryz.ntmps15
  go_upto_region 3 with (fail)
  refine rg_begin (fun W2 => W2.cell? ⟨W.heap.size, 0, none⟩ = some (.int .i64 m.kind) ∧ W2.cell? ⟨W.heap.size, 2, none⟩ = some (.int .i64 m.dest) ∧ W2.cell? ⟨gb, 0, none⟩ = some (.int .i64 n) ∧ W2.rangeAt W.heap.size 0 CM) 18 (by kernel_rfl) ?_
  refine rg_take (i := 0) (v := ?va0) (by simp only [List.getElem?_toArray, List.getElem?_cons_zero]; rfl) (by kernel_rfl) (by exact fun _ _ _ h => h) (by rfl) ?ra0 hF ?sa0
  case ra0 => (intro W hW; clear hW; go_simp; try with_reducible rfl)
  try simp only [Act.put, List.setIfInBounds_toArray, List.set_cons_zero, List.set_cons_succ]
  refine rg_take (i := 1) (v := ?va1) (by simp only [List.getElem?_toArray, List.getElem?_cons_succ, List.getElem?_cons_zero]; rfl) (by kernel_rfl) (by exact fun _ _ _ h => h) (by rfl) ?ra1 hF ?sa1
  case ra1 => (intro W9 hW; obtain ⟨f1, f2, f3, f4⟩ := hW; go_simp; try with_reducible rfl)
  try simp only [Act.put, List.setIfInBounds_toArray, List.set_cons_zero, List.set_cons_succ]
  refine rg_take (i := 2) (v := ?va2) (by simp only [List.getElem?_toArray, List.getElem?_cons_succ, List.getElem?_cons_zero]; rfl) (by kernel_rfl) (by exact fun _ _ _ h => h) (by rfl) ?ra2 hF ?sa2
  case ra2 => (intro W hW; clear hW; go_simp; try with_reducible rfl)
  try simp only [Act.put, List.setIfInBounds_toArray, List.set_cons_zero, List.set_cons_succ]
  refine rg_take (i := 3) (v := ?va3) (by simp only [List.getElem?_toArray, List.getElem?_cons_succ, List.getElem?_cons_zero]; rfl) (by kernel_rfl) (by exact fun _ _ _ h => h) (by rfl) ?ra3 hF ?sa3
  case ra3 => (intro W hW; clear hW; go_simp; try with_reducible rfl)
  try simp only [Act.put, List.setIfInBounds_toArray, List.set_cons_zero, List.set_cons_succ]
  refine rg_take (i := 4) (v := ?va4) (by simp only [List.getElem?_toArray, List.getElem?_cons_succ, List.getElem?_cons_zero]; rfl) (by kernel_rfl) (by exact fun _ _ _ h => h) (by rfl) ?ra4 hF ?sa4
  case ra4 => (intro W hW; clear hW; go_simp; try with_reducible rfl)
  try simp only [Act.put, List.setIfInBounds_toArray, List.set_cons_zero, List.set_cons_succ]
  refine rg_take (i := 5) (v := ?va5) (by simp only [List.getElem?_toArray, List.getElem?_cons_succ, List.getElem?_cons_zero]; rfl) (by kernel_rfl) (by exact fun _ _ _ h => h) (by rfl) ?ra5 hF ?sa5
  case ra5 => (intro W9 hW; obtain ⟨f1, f2, f3, f4⟩ := hW; go_simp; try with_reducible rfl)
  try simp only [Act.put, List.setIfInBounds_toArray, List.set_cons_zero, List.set_cons_succ]
  refine rg_take (i := 6) (v := ?va6) (by simp only [List.getElem?_toArray, List.getElem?_cons_succ, List.getElem?_cons_zero]; rfl) (by kernel_rfl) (by exact fun _ _ _ h => h) (by rfl) ?ra6 hF ?sa6
  case ra6 => (intro W hW; clear hW; go_simp; try with_reducible rfl)
  try simp only [Act.put, List.setIfInBounds_toArray, List.set_cons_zero, List.set_cons_succ]
  refine rg_take (i := 7) (v := ?va7) (by simp only [List.getElem?_toArray, List.getElem?_cons_succ, List.getElem?_cons_zero]; rfl) (by kernel_rfl) (by exact fun _ _ _ h => h) (by rfl) ?ra7 hF ?sa7
  case ra7 => (intro W hW; clear hW; go_simp; try with_reducible rfl)
  try simp only [Act.put, List.setIfInBounds_toArray, List.set_cons_zero, List.set_cons_succ]
  refine rg_take (i := 8) (v := ?va8) (by simp only [List.getElem?_toArray, List.getElem?_cons_succ, List.getElem?_cons_zero]; rfl) (by kernel_rfl) (by exact fun _ _ _ h => h) (by rfl) ?ra8 hF ?sa8
  case ra8 => (intro W hW; clear hW; go_simp; try with_reducible rfl)
  try simp only [Act.put, List.setIfInBounds_toArray, List.set_cons_zero, List.set_cons_succ]
  refine rg_take (i := 9) (v := ?va9) (by simp only [List.getElem?_toArray, List.getElem?_cons_succ, List.getElem?_cons_zero]; rfl) (by kernel_rfl) (by exact fun _ _ _ h => h) (by rfl) ?ra9 hF ?sa9
  case ra9 => (intro W9 hW; obtain ⟨f1, f2, f3, f4⟩ := hW; go_simp; try with_reducible rfl)
  try simp only [Act.put, List.setIfInBounds_toArray, List.set_cons_zero, List.set_cons_succ]
  refine rg_take (i := 10) (v := ?va10) (by simp only [List.getElem?_toArray, List.getElem?_cons_succ, List.getElem?_cons_zero]; rfl) (by kernel_rfl) (by exact fun _ _ _ h => h) (by rfl) ?ra10 hF ?sa10
  case ra10 => (intro W hW; clear hW; go_simp; try with_reducible rfl)
  try simp only [Act.put, List.setIfInBounds_toArray, List.set_cons_zero, List.set_cons_succ]
  refine rg_take (i := 11) (v := ?va11) (by simp only [List.getElem?_toArray, List.getElem?_cons_succ, List.getElem?_cons_zero]; rfl) (by kernel_rfl) (by exact fun _ _ _ h => h) (by rfl) ?ra11 hF ?sa11
  case ra11 => (intro W hW; clear hW; go_simp; try with_reducible rfl)
  try simp only [Act.put, List.setIfInBounds_toArray, List.set_cons_zero, List.set_cons_succ]
  refine rg_take (i := 12) (v := ?va12) (by simp only [List.getElem?_toArray, List.getElem?_cons_succ, List.getElem?_cons_zero]; rfl) (by kernel_rfl) (by exact fun _ _ _ h => h) (by rfl) ?ra12 hF ?sa12
  case ra12 => (intro W hW; clear hW; go_simp; try with_reducible rfl)
  try simp only [Act.put, List.setIfInBounds_toArray, List.set_cons_zero, List.set_cons_succ]
  refine rg_take (i := 13) (v := ?va13) (by simp only [List.getElem?_toArray, List.getElem?_cons_succ, List.getElem?_cons_zero]; rfl) (by kernel_rfl) (by exact fun _ _ _ h => h) (by rfl) ?ra13 hF ?sa13
  case ra13 => (intro W9 hW; refine exec_load_mid W9 38 (.tmp 3) ?_ W.heap.size 0 ?_ CM _ hW.2.2.2 Tryz.underlying38 ?_ HiM.out; exact rfl; exact rfl; exact rfl)
  try simp only [Act.put, List.setIfInBounds_toArray, List.set_cons_zero, List.set_cons_succ]
  refine rg_one (i := 14) (oi := ?oa14) ?aa14 ?ba14 ?ca14 ?da14
  case aa14 => (simp only [List.getElem?_toArray, List.getElem?_cons_succ, List.getElem?_cons_zero]; rfl)
  case ba14 => kernel_rfl
  case ca14 => rfl
  intro K hK
  (go_simp; refine (PV.out _ (Kp.refl No (W.alloc (.cells CM.toArray 38))).drew).mono ?_; rintro e w5 ⟨rfl, k5⟩)
  refine rg_use hK (HFK.out _ k5) (fun hF => ?_)
  clear hK K
  try simp only [Act.put, List.setIfInBounds_toArray, List.set_cons_zero, List.set_cons_succ]
  refine rg_take (i := 15) (v := ?va15) (by simp only [List.getElem?_toArray, List.getElem?_cons_succ, List.getElem?_cons_zero]; rfl) (by kernel_rfl) (by exact fun _ _ _ h => h) (by rfl) ?ra15 hF ?sa15
  case ra15 => (intro W hW; clear hW; go_simp; try with_reducible rfl)
  try simp only [Act.put, List.setIfInBounds_toArray, List.set_cons_zero, List.set_cons_succ]
  refine rg_take (i := 16) (v := ?va16) (by simp only [List.getElem?_toArray, List.getElem?_cons_succ, List.getElem?_cons_zero]; rfl) (by kernel_rfl) (by exact fun _ _ _ h => h) (by rfl) ?ra16 hF ?sa16
  case ra16 => (intro W hW; clear hW; go_simp; try with_reducible rfl)
  try simp only [Act.put, List.setIfInBounds_toArray, List.set_cons_zero, List.set_cons_succ]
  refine rg_take (i := 17) (v := ?va17) (by simp only [List.getElem?_toArray, List.getElem?_cons_succ, List.getElem?_cons_zero]; rfl) (by kernel_rfl) (by exact fun _ _ _ h => h) (by rfl) ?ra17 hF ?sa17
  case ra17 => (intro W hW; clear hW; go_simp; try with_reducible rfl)
  try simp only [Act.put, List.setIfInBounds_toArray, List.set_cons_zero, List.set_cons_succ]
  refine rg_done (by kernel_rfl) ?_
  have HK5 := Lib.hid (HK.out.trans k5)
  have HB5 := Lib.hid (HB.out.no k5)
  have HM5 := Lib.hid (show Bk w5 W.heap.size 38 (mcells m (.slice A m.stamp.length c)) from by rw [← HCM.out]; exact HM.out.no k5)
  have HG5 := Lib.hid ((HG.out.no HK5.out).mono (Q := fun q => P q ∨ W.heap.size ≤ q) fun q h => .inl h)
  have HD5 := Lib.hid (HD.out.no HK5.out)
  have HH := Lib.hid (hand_op (g := g) (d := d) HN.out)
  clear HFK PV hF k5 d1 d2 HM HB HG HD
  have z4 : w5.cell? ⟨gb, 4, none⟩ = some (.bool g.dead) := HB5.out.cell 4
  cases hd : g.dead with
  | true =>
    rw [hd] at z4
    have HE := Lib.hid (show handleG n g d m = (g, d, 40) from by rw [HH.out, if_pos hd])
    have HF := Lib.hid (show HandR W gb db sb cap n P g d m (.returned (.int .i64 40)) w5 from ⟨by rw [HE.out], by rw [HE.out]; exact HG5.out, by rw [HE.out]; exact HD5.out, HK5.out.of_no⟩)
    clear hd
    go_wp2
    go_ret
    exact HF.out
  | false =>
    rw [hd] at z4
    have HDD := Lib.hid hd
    have pc := compareS_any (.slice A m.stamp.length c) (.slice AH g.high.length cH) m.stamp g.high
    have PC := Lib.hid (show ∀ W2, Kp No w5 W2 → Calls Tryz.prog 20 #[.slice A m.stamp.length c, .slice AH g.high.length cH] W2 (fun e w' => e = .returned (.int .i64 (cmpS m.stamp g.high)) ∧ Kp No w5 w') from fun W2 kk =>
      (pc W2 ((HS.out.no HK5.out).no kk).arg ((HSL.out.no HK5.out).no kk).arg (by unfold maxLen; omega) (by have := HHH.out; unfold maxLen; omega)).mono fun e w' h => ⟨h.1, kk.trans h.2⟩)
    obtain ⟨cc, hcc⟩ : ∃ cc, cc = cmpS m.stamp g.high := ⟨_, rfl⟩
    have HCC := Lib.hid hcc.symm
    have hF : (fun W2 => W2.cell? ⟨W.heap.size, 13, none⟩ = some (.slice A m.stamp.length c) ∧ W2.cell? ⟨gb, 2, none⟩ = some (.slice AH g.high.length cH)) w5.drew := ⟨HM5.out.cell 13, HB5.out.cell 2⟩
    clear hd pc hcc
    go_upto_region 7 with (fail)
    clear z4
    refine rg_begin (fun W2 => W2.cell? ⟨W.heap.size, 13, none⟩ = some (.slice A m.stamp.length c) ∧ W2.cell? ⟨gb, 2, none⟩ = some (.slice AH g.high.length cH)) 8 (by kernel_rfl) ?_
    refine rg_take (i := 0) (v := ?vk0) (by simp only [List.getElem?_toArray, List.getElem?_cons_zero]; rfl) (by kernel_rfl) (by exact fun _ _ _ h => h) (by rfl) ?rk0 hF ?sk0
    case rk0 => (intro W hW; clear hW; go_simp; try with_reducible rfl)
    try simp only [Act.put, List.setIfInBounds_toArray, List.set_cons_zero, List.set_cons_succ]
    refine rg_take (i := 1) (v := ?vk1) (by simp only [List.getElem?_toArray, List.getElem?_cons_succ, List.getElem?_cons_zero]; rfl) (by kernel_rfl) (by exact fun _ _ _ h => h) (by rfl) ?rk1 hF ?sk1
    case rk1 => (intro W9 hW; obtain ⟨f1, f2⟩ := hW; go_simp; try with_reducible rfl)
    try simp only [Act.put, List.setIfInBounds_toArray, List.set_cons_zero, List.set_cons_succ]
    refine rg_take (i := 2) (v := ?vk2) (by simp only [List.getElem?_toArray, List.getElem?_cons_succ, List.getElem?_cons_zero]; rfl) (by kernel_rfl) (by exact fun _ _ _ h => h) (by rfl) ?rk2 hF ?sk2
    case rk2 => (intro W hW; clear hW; go_simp; try with_reducible rfl)
    try simp only [Act.put, List.setIfInBounds_toArray, List.set_cons_zero, List.set_cons_succ]
    refine rg_take (i := 3) (v := ?vk3) (by simp only [List.getElem?_toArray, List.getElem?_cons_succ, List.getElem?_cons_zero]; rfl) (by kernel_rfl) (by exact fun _ _ _ h => h) (by rfl) ?rk3 hF ?sk3
    case rk3 => (intro W hW; clear hW; go_simp; try with_reducible rfl)
    try simp only [Act.put, List.setIfInBounds_toArray, List.set_cons_zero, List.set_cons_succ]
    refine rg_take (i := 4) (v := ?vk4) (by simp only [List.getElem?_toArray, List.getElem?_cons_succ, List.getElem?_cons_zero]; rfl) (by kernel_rfl) (by exact fun _ _ _ h => h) (by rfl) ?rk4 hF ?sk4
    case rk4 => (intro W hW; clear hW; go_simp; try with_reducible rfl)
    try simp only [Act.put, List.setIfInBounds_toArray, List.set_cons_zero, List.set_cons_succ]
    refine rg_take (i := 5) (v := ?vk5) (by simp only [List.getElem?_toArray, List.getElem?_cons_succ, List.getElem?_cons_zero]; rfl) (by kernel_rfl) (by exact fun _ _ _ h => h) (by rfl) ?rk5 hF ?sk5
    case rk5 => (intro W9 hW; obtain ⟨f1, f2⟩ := hW; go_simp; try with_reducible rfl)
    try simp only [Act.put, List.setIfInBounds_toArray, List.set_cons_zero, List.set_cons_succ]
    refine rg_one (i := 6) (oi := ?ok6) ?ak6 ?bk6 ?ck6 ?dk6
    case ak6 => (simp only [List.getElem?_toArray, List.getElem?_cons_succ, List.getElem?_cons_zero]; rfl)
    case bk6 => kernel_rfl
    case ck6 => rfl
    intro K hK
    (go_simp; refine (PC.out _ (Kp.refl No w5).drew).mono ?_; rintro e w6 ⟨he6, k6⟩; rw [HCC.out] at he6; subst he6)
    refine rg_use hK (⟨(HM5.out.no k6).cell 13, (HB5.out.no k6).cell 2⟩) (fun hF => ?_)
    clear hK K
    try simp only [Act.put, List.setIfInBounds_toArray, List.set_cons_zero, List.set_cons_succ]
    refine rg_take (i := 7) (v := ?vk7) (by simp only [List.getElem?_toArray, List.getElem?_cons_succ, List.getElem?_cons_zero]; rfl) (by kernel_rfl) (by exact fun _ _ _ h => h) (by rfl) ?rk7 hF ?sk7
    case rk7 => (intro W hW; clear hW; go_simp; try with_reducible rfl)
    try simp only [Act.put, List.setIfInBounds_toArray, List.set_cons_zero, List.set_cons_succ]
    refine rg_done (by kernel_rfl) ?_
    have HK6 := Lib.hid (HK5.out.trans k6)
    have HG6 := Lib.hid (HG5.out.no k6)
    have HD6 := Lib.hid (HD5.out.no k6)
    have HM6 := Lib.hid (HM5.out.no k6)
    have HB6 := Lib.hid (HB5.out.no k6)
    have HS6 := Lib.hid ((HS.out.no HK5.out).no k6)
    clear hF k6 HK5 HG5 HD5 HM5 HB5 PC
    by_cases c1 : cc < 0
    · have HE := Lib.hid (show handleG n g d m = (g, d, 65) from by rw [HH.out, if_neg (by rw [HDD.out]; decide), if_pos (by rw [HCC.out]; exact c1)])
      have HF := Lib.hid (show HandR W gb db sb cap n P g d m (.returned (.int .i64 65)) w6 from ⟨by rw [HE.out], by rw [HE.out]; exact HG6.out, by rw [HE.out]; exact HD6.out, HK6.out.of_no⟩)
      go_wp2
      go_ret
      exact HF.out
    · by_cases c2 : cc = 0
      · have HE := Lib.hid (show handleG n g d m = (g, d, 0) from by rw [HH.out, if_neg (by rw [HDD.out]; decide), if_neg (by rw [HCC.out]; exact c1), if_pos (by rw [HCC.out]; exact c2)])
        have c2b : (cc == 0) = true := by rw [c2]; rfl
        have HF := Lib.hid (show HandR W gb db sb cap n P g d m (.returned (.int .i64 0)) w6 from ⟨by rw [HE.out], by rw [HE.out]; exact HG6.out, by rw [HE.out]; exact HD6.out, HK6.out.of_no⟩)
        go_wp2
        go_ret
        exact HF.out
      · have c2b : (cc == 0) = false := by rw [beq_eq_false_iff_ne]; exact c2
        have z3 : w6.cell? ⟨gb, 3, none⟩ = some (.int .i64 (g.seq : Int)) := HB6.out.cell 3
        by_cases c3 : 1073741824 ≤ g.seq
        · have c3b : (1073741824 : Int) ≤ (g.seq : Int) := by omega
          have HE := Lib.hid (show handleG n g d m = (g, d, 42) from by rw [HH.out, if_neg (by rw [HDD.out]; decide), if_neg (by rw [HCC.out]; exact c1), if_neg (by rw [HCC.out]; exact c2), if_pos c3])
          have HF := Lib.hid (show HandR W gb db sb cap n P g d m (.returned (.int .i64 42)) w6 from ⟨by rw [HE.out], by rw [HE.out]; exact HG6.out, by rw [HE.out]; exact HD6.out, HK6.out.of_no⟩)
          go_wp2
          go_ret
          exact HF.out
        · have c3b : ¬ (1073741824 : Int) ≤ (g.seq : Int) := by omega
          have HE := Lib.hid (show handleG n g d m = if (dwriteG d ((g.seq + 1) % 2) (sectG (g.seq + 1) m.stamp)).2 = 0 then (⟨m.stamp, g.seq + 1, false⟩, (dwriteG d ((g.seq + 1) % 2) (sectG (g.seq + 1) m.stamp)).1, 0) else ({ g with dead := true }, (dwriteG d ((g.seq + 1) % 2) (sectG (g.seq + 1) m.stamp)).1, 40) from by rw [HH.out, if_neg (by rw [HDD.out]; decide), if_neg (by rw [HCC.out]; exact c1), if_neg (by rw [HCC.out]; exact c2), if_neg c3])
          have z13 : w6.cell? ⟨W.heap.size, 13, none⟩ = some (.slice A m.stamp.length c) := HM6.out.cell 13
          have pr := raise_any gb db sb cap n g d (fun q => P q ∨ W.heap.size ≤ q) m.stamp A c w6 HG6.out HD6.out HS6.out HV.out (by omega) HL.out HDD.out HW.out
          clear c2 c3
          go_wp2_with fail
          refine pr.mono ?_
          rintro e w7 ⟨k7, hd7, hh7⟩
          clear pr
          rcases hh7 with ⟨h0, rfl, hg7⟩ | ⟨h40, rfl, hg7⟩
          · rw [if_pos h0] at HE
            have HF := Lib.hid (show HandR W gb db sb cap n P g d m (.returned (.int .i64 0)) w7 from ⟨by rw [HE.out], by rw [HE.out]; exact hg7.mono (fun q h => .inr (Nat.le_trans HK6.out.size h)), by rw [HE.out]; exact hd7, HK6.out.of_no.trans k7⟩)
            clear HE h0 k7 hd7 hg7 c2b z3 c3b z13
            go_wp2
            go_ret
            exact HF.out
          · rw [if_neg (by rw [h40]; decide)] at HE
            have HF := Lib.hid (show HandR W gb db sb cap n P g d m (.returned (.int .i64 40)) w7 from ⟨by rw [HE.out], by rw [HE.out]; exact hg7, by rw [HE.out]; exact hd7, HK6.out.of_no.trans k7⟩)
            clear HE h40 k7 hd7 hg7 c2b z3 c3b z13
            go_wp2
            go_ret
            exact HF.out
end Go.Proofs.YtlgbmkdeamgpkaaGreatDoor

/- The gate's Handle by one contract; a gate and its disk in a law. No condition beyond what each theorem states. -/
namespace Go.Proofs.YtlgbmkdeamgpkaaGreatDoor
open Go Go.RowKit Go.PlainAid

theorem handle_any (gb db sb cap : Nat) (n : Int) (g : Gat) (d : Dsk) (P : Nat → Prop) (m : Msg) (A : Option Addr) (c : Nat) (W : World) (hG : GtB W P gb db n g) (hD : DkB W db sb cap d) (hs : SlI W (.slice A m.stamp.length c) m.stamp) (hr : Rng m) (hsh : Short maxLen m)
    (hh : g.high.length ≤ 4) (hL : d.L.length = 2) (hw : d.wr < 4611686018427387904) :
    Calls Tryz.prog 15 #[.pointer (some ⟨gb, 0, none⟩), .agg (mcells m (.slice A m.stamp.length c)).toArray] W (HandR W gb db sb cap n P g d m) := by
  by_cases hn : m.kind = 5 ∧ m.dest = n ∧ mayS vpP m
  · exact handle_op gb db sb cap n g d P m A c W hG hD hs hr hsh hn hh hL hw
  · refine (handle_kind gb db n g P m A c W hG hs hr hsh hn).mono ?_
    rintro e w' ⟨rfl, hk⟩
    have HE : handleG n g d m = (g, d, 22) := by unfold handleG; rw [if_pos hn]
    exact ⟨by rw [HE], by rw [HE]; exact (hG.no hk).mono fun q h => .inl h, by rw [HE]; exact hD.no hk, hk.of_no⟩
set_option maxRecDepth 100000 in
set_option maxHeartbeats 1000000 in
theorem handle_nil (m : Msg) (A : Option Addr) (c : Nat) (W : World) :
    Calls Tryz.prog 15 #[.pointer none, .agg (mcells m (.slice A m.stamp.length c)).toArray] W fun e w' => e = .returned (.int .i64 1) ∧ Kp No W w' := by
  obtain ⟨CM, hCM⟩ : ∃ C, C = mcells m (.slice A m.stamp.length c) := ⟨_, rfl⟩
  have HK := Lib.hid ((Kp.refl No W).alloc (.cells CM.toArray 38))
  rw [← hCM]
  clear hCM
  go_enter Tryz.func15, Tryz.ntmps15
  go_wp2
  go_ret
  exact ⟨rfl, HK.out⟩
/-- a gate and its disk in a law: all from block B on -/
structure GS (w : World) (B gb db sb cap : Nat) (n : Int) (g : Gat) (d : Dsk) : Prop where
  gt : GtB w (fun q => B ≤ q) gb db n g
  dk : DkB w db sb cap d
  inv : GInv g d
  b1 : B ≤ gb
  b2 : B ≤ db
  b3 : B ≤ sb
theorem GS.no {w w' : World} {B gb db sb cap : Nat} {n : Int} {g : Gat} {d : Dsk} (h : GS w B gb db sb cap n g d) (hk : Kp No w w') : GS w' B gb db sb cap n g d := ⟨h.gt.no hk, h.dk.no hk, h.inv, h.b1, h.b2, h.b3⟩
theorem GS.lt {w : World} {B gb db sb cap : Nat} {n : Int} {g : Gat} {d : Dsk} (h : GS w B gb db sb cap n g d) : B ≤ w.heap.size := Nat.le_trans h.b1 (Nat.le_of_lt h.gt.lt)
theorem GS.low {w : World} {B B' gb db sb cap : Nat} {n : Int} {g : Gat} {d : Dsk} (h : GS w B gb db sb cap n g d) (hb : B' ≤ B) : GS w B' gb db sb cap n g d :=
  ⟨h.gt.mono fun _ hq => Nat.le_trans hb hq, h.dk, h.inv, Nat.le_trans hb h.b1, Nat.le_trans hb h.b2, Nat.le_trans hb h.b3⟩
theorem GS.high {w : World} {B gb db sb cap : Nat} {n : Int} {g : Gat} {d : Dsk} (h : GS w B gb db sb cap n g d) : g.high.length ≤ 4 := by
  have := start_len d.L
  rw [h.inv.at_] at this
  exact this.1
theorem GS.seq {w : World} {B gb db sb cap : Nat} {n : Int} {g : Gat} {d : Dsk} (h : GS w B gb db sb cap n g d) : g.seq ≤ 1073741824 := by
  have := start_len d.L
  rw [h.inv.at_] at this
  exact this.2
/-- blocks of other types may be written -/
theorem GS.kp {w w' : World} {B gb db sb cap : Nat} {n : Int} {g : Gat} {d : Dsk} {M : Nat → Prop} (h : GS w B gb db sb cap n g d) (hk : Kp M w w') (hm : ∀ q, B ≤ q → (∃ t cs, Bk w q t cs ∧ (t = 78 ∨ t = 76 ∨ t = 91 ∨ t = 3)) → ¬ M q) : GS w' B gb db sb cap n g d := by
  obtain ⟨gcs, hgb⟩ := h.gt.bk
  obtain ⟨sp, hse⟩ := h.dk.1.se
  exact ⟨h.gt.kp hk (hm gb h.b1 ⟨_, _, hgb, .inl rfl⟩) (fun q cs hq hp => hm q hp ⟨_, _, hq, .inr (.inr (.inr rfl))⟩), h.dk.kp hk (hm db h.b2 ⟨_, _, h.dk.1.st, .inr (.inl rfl)⟩) (hm sb h.b3 ⟨_, _, hse, .inr (.inr (.inl rfl))⟩), h.inv, h.b1, h.b2, h.b3⟩
def GM (gb db sb : Nat) : Nat → Prop := fun q => q = gb ∨ q = db ∨ q = sb
theorem GM.old {W w w' : World} {B gb db sb cap : Nat} {n : Int} {g : Gat} {d : Dsk} (h : GS w B gb db sb cap n g d) (hB : W.heap.size ≤ B) (hk : Kp No W w) (k : Kp (GM gb db sb) w w') : Kp No W w' := by
  refine hk.then_ k fun i hi e => ?_
  have h1 := h.b1; have h2 := h.b2; have h3 := h.b3
  rcases e with e | e | e <;> omega
def HandS (W : World) (B gb db sb cap : Nat) (n : Int) (g : Gat) (d : Dsk) (m : Msg) (e : Ending) (w' : World) : Prop :=
  e = .returned (.int .i64 (handleG n g d m).2.2) ∧ GS w' B gb db sb cap n (handleG n g d m).1 (handleG n g d m).2.1 ∧ Kp (GM gb db sb) W w'
theorem handle_gs (B gb db sb cap : Nat) (n : Int) (g : Gat) (d : Dsk) (m : Msg) (A : Option Addr) (c : Nat) (W : World) (h : GS W B gb db sb cap n g d) (hs : SlI W (.slice A m.stamp.length c) m.stamp) (hr : Rng m) (hsh : Short maxLen m) (hw : d.wr < 4611686018427387904) :
    Calls Tryz.prog 15 #[.pointer (some ⟨gb, 0, none⟩), .agg (mcells m (.slice A m.stamp.length c)).toArray] W (HandS W B gb db sb cap n g d m) := by
  refine (handle_any gb db sb cap n g d (fun q => B ≤ q) m A c W h.gt h.dk hs hr hsh h.high h.inv.two hw).mono ?_
  rintro e w' ⟨he, hg, hd, hk⟩
  refine ⟨he, ⟨hg.mono fun q hq => ?_, hd, h.inv.handle fun h1 h2 => may_op h1 h2, h.b1, h.b2, h.b3⟩, hk⟩
  rcases hq with hq | hq
  · exact hq
  · exact Nat.le_trans h.lt hq
theorem handleG_wr (n : Int) (g : Gat) (d : Dsk) (m : Msg) : (handleG n g d m).2.1.wr ≤ d.wr + 1 := by
  unfold handleG
  repeat' split
  all_goals first
    | (show d.wr ≤ d.wr + 1; omega)
    | (rename_i h; obtain ⟨_, _, h3⟩ := dwrite_yes h; show (dwriteG _ _ _).1.wr ≤ _; omega)
    | (rename_i h; obtain ⟨_, _, _, h3⟩ := dwrite_no h; show (dwriteG _ _ _).1.wr ≤ _; omega)
/-- a gate that begins anew finds what the old one knew -/
theorem start_gs (B gb0 db sb cap : Nat) (n : Int) (g : Gat) (d : Dsk) (W : World) (h : GS W B gb0 db sb cap n g d) (h1 : 8 ≤ n) (h2 : n < 12) (ho : d.off = false) :
    Calls Tryz.prog 11 #[.int .i64 n, .pointer (some ⟨db, 0, none⟩)] W fun e w' => ∃ gb, e = .returned (.tuple #[.pointer (some ⟨gb, 0, none⟩), .int .i64 0]) ∧ W.heap.size ≤ gb ∧ GS w' B gb db sb cap n ⟨g.high, g.seq, false⟩ d ∧ Kp No W w' := by
  have hD := h.dk.1
  rw [ho] at hD
  refine (start_any n db sb cap d.L d.wr d.ar d.lf W hD h1 h2 (by rw [h.inv.two]; omega)).mono ?_
  rintro e w' ⟨gb, rfl, hg, hb, hk⟩
  rw [h.inv.at_] at hb
  exact ⟨gb, rfl, hg, ⟨hb.mono fun q hq => Nat.le_trans h.lt hq.1, h.dk.no hk, ⟨h.inv.two, h.inv.len, h.inv.at_⟩, Nat.le_trans h.lt hg, h.b2, h.b3⟩, hk⟩
end Go.Proofs.YtlgbmkdeamgpkaaGreatDoor
