/- Several texts of this claim in one. No condition beyond what each theorem states. -/
import Derived.Test.YtaipbikbapjmjaaGreatF2
import Derived.Test.YtaipbikbapjmjaaGreatE9
import Derived.Test.YtaipbikbapjmjaaGreatB12
/- The document's Seen by contract. No condition beyond what each theorem states. -/
namespace Go.Proofs.YtaipbikbapjmjaaGreat
open Go Go.RowKit Go.PlainAid

def SeenD (D : List Dc) (m : Msg) (W : World) (e : Ending) (w' : World) : Prop :=
  Kp No W w' ∧ ∃ (v : Value) (D' : List Dc) (a : Msg) (sv : Value) (vd : Int), e = .returned (.tuple #[.agg #[v], .int .i64 vd, .agg (mcells a sv).toArray]) ∧ RefR w' v D' ∧ D'.length = 8 ∧ (∀ x ∈ D', x.L.length ≤ 8) ∧
    D'.map toCl = (seenS (D.map toCl) m).1 ∧ (vd, a) = (seenS (D.map toCl) m).2 ∧ SlI w' sv a.stamp
theorem toCl_get (D : List Dc) (k : Nat) (hk : k < D.length) : (D.map toCl).getD k {} = toCl D[k] := by
  rw [List.getD_eq_getElem?_getD, List.getElem?_map, List.getElem?_eq_getElem hk]; rfl
set_option maxRecDepth 100000 in
set_option maxHeartbeats 8000000 in
theorem dseen_not (A : Option Addr) (c : Nat) (D : List Dc) (m : Msg) (B : Option Addr) (d : Nat) (W : World) (h : RefR W (.slice A D.length c) D) (h8 : D.length = 8) (hl : ∀ x ∈ D, x.L.length ≤ 8) (hs : ArgInts W (.slice B m.stamp.length d) m.stamp) (hm : m.stamp.length ≤ maxLen) (hp : m.path.length ≤ 140737488355328) (hn : ¬ (m.kind = 1 ∧ mayS vpP m)) :
    Calls Tryz.prog 18 #[.agg #[.slice A D.length c], .agg (mcells m (.slice B m.stamp.length d)).toArray] W (SeenD D m W) := by
  have HS0 := Lib.hid (show Bk (((((W.alloc (.cells #[.slice A D.length c] 42)).alloc (.cells (mcells m (.slice B m.stamp.length d)).toArray 32)).alloc (.cells #[.slice none 0 0] 42)).alloc (.cells #[.int .i64 0, .int .i64 0, .int .i64 0, .int .i64 0, .int .i64 0, .int .i64 0, .int .i64 0, .string ⟨#[]⟩, .int .i64 0, .int .i64 0, .int .i64 0, .bool false, .int .i64 0, .slice none 0 0, .int .i64 0, .int .i64 0] 32)).alloc (.cells #[.int .i64 0, .int .i64 0, .int .i64 0, .int .i64 0, .int .i64 0, .int .i64 0, .int .i64 0, .string ⟨#[]⟩, .int .i64 0, .int .i64 0, .int .i64 0, .bool false, .int .i64 0, .slice none 0 0, .int .i64 0, .int .i64 0] 32)) W.heap.size 42 [.slice A D.length c] from ((((Bk.new' rfl rfl).alloc _).alloc _).alloc _).alloc _)
  have HM0 := Lib.hid (show Bk (((((W.alloc (.cells #[.slice A D.length c] 42)).alloc (.cells (mcells m (.slice B m.stamp.length d)).toArray 32)).alloc (.cells #[.slice none 0 0] 42)).alloc (.cells #[.int .i64 0, .int .i64 0, .int .i64 0, .int .i64 0, .int .i64 0, .int .i64 0, .int .i64 0, .string ⟨#[]⟩, .int .i64 0, .int .i64 0, .int .i64 0, .bool false, .int .i64 0, .slice none 0 0, .int .i64 0, .int .i64 0] 32)).alloc (.cells #[.int .i64 0, .int .i64 0, .int .i64 0, .int .i64 0, .int .i64 0, .int .i64 0, .int .i64 0, .string ⟨#[]⟩, .int .i64 0, .int .i64 0, .int .i64 0, .bool false, .int .i64 0, .slice none 0 0, .int .i64 0, .int .i64 0] 32)) (W.heap.size + 1) 32 (mcells m (.slice B m.stamp.length d)) from (((Bk.new' (by simp) rfl).alloc _).alloc _).alloc _)
  have HR20 := Lib.hid (show Bk (((((W.alloc (.cells #[.slice A D.length c] 42)).alloc (.cells (mcells m (.slice B m.stamp.length d)).toArray 32)).alloc (.cells #[.slice none 0 0] 42)).alloc (.cells #[.int .i64 0, .int .i64 0, .int .i64 0, .int .i64 0, .int .i64 0, .int .i64 0, .int .i64 0, .string ⟨#[]⟩, .int .i64 0, .int .i64 0, .int .i64 0, .bool false, .int .i64 0, .slice none 0 0, .int .i64 0, .int .i64 0] 32)).alloc (.cells #[.int .i64 0, .int .i64 0, .int .i64 0, .int .i64 0, .int .i64 0, .int .i64 0, .int .i64 0, .string ⟨#[]⟩, .int .i64 0, .int .i64 0, .int .i64 0, .bool false, .int .i64 0, .slice none 0 0, .int .i64 0, .int .i64 0] 32)) (W.heap.size + 1 + 1) 42 [.slice none 0 0] from ((Bk.new' (by simp) rfl).alloc _).alloc _)
  have HR30 := Lib.hid (show Bk (((((W.alloc (.cells #[.slice A D.length c] 42)).alloc (.cells (mcells m (.slice B m.stamp.length d)).toArray 32)).alloc (.cells #[.slice none 0 0] 42)).alloc (.cells #[.int .i64 0, .int .i64 0, .int .i64 0, .int .i64 0, .int .i64 0, .int .i64 0, .int .i64 0, .string ⟨#[]⟩, .int .i64 0, .int .i64 0, .int .i64 0, .bool false, .int .i64 0, .slice none 0 0, .int .i64 0, .int .i64 0] 32)).alloc (.cells #[.int .i64 0, .int .i64 0, .int .i64 0, .int .i64 0, .int .i64 0, .int .i64 0, .int .i64 0, .string ⟨#[]⟩, .int .i64 0, .int .i64 0, .int .i64 0, .bool false, .int .i64 0, .slice none 0 0, .int .i64 0, .int .i64 0] 32)) (W.heap.size + 1 + 1 + 1) 32 (mcells ({} : Msg) (.slice none 0 0)) from (Bk.new' (by simp) rfl).alloc _)
  have HN0 := Lib.hid (show Bk (((((W.alloc (.cells #[.slice A D.length c] 42)).alloc (.cells (mcells m (.slice B m.stamp.length d)).toArray 32)).alloc (.cells #[.slice none 0 0] 42)).alloc (.cells #[.int .i64 0, .int .i64 0, .int .i64 0, .int .i64 0, .int .i64 0, .int .i64 0, .int .i64 0, .string ⟨#[]⟩, .int .i64 0, .int .i64 0, .int .i64 0, .bool false, .int .i64 0, .slice none 0 0, .int .i64 0, .int .i64 0] 32)).alloc (.cells #[.int .i64 0, .int .i64 0, .int .i64 0, .int .i64 0, .int .i64 0, .int .i64 0, .int .i64 0, .string ⟨#[]⟩, .int .i64 0, .int .i64 0, .int .i64 0, .bool false, .int .i64 0, .slice none 0 0, .int .i64 0, .int .i64 0] 32)) (W.heap.size + 1 + 1 + 1 + 1) 32 (mcells ({} : Msg) (.slice none 0 0)) from Bk.new' (by simp) rfl)
  have HK0 := Lib.hid (show Kp No W (((((W.alloc (.cells #[.slice A D.length c] 42)).alloc (.cells (mcells m (.slice B m.stamp.length d)).toArray 32)).alloc (.cells #[.slice none 0 0] 42)).alloc (.cells #[.int .i64 0, .int .i64 0, .int .i64 0, .int .i64 0, .int .i64 0, .int .i64 0, .int .i64 0, .string ⟨#[]⟩, .int .i64 0, .int .i64 0, .int .i64 0, .bool false, .int .i64 0, .slice none 0 0, .int .i64 0, .int .i64 0] 32)).alloc (.cells #[.int .i64 0, .int .i64 0, .int .i64 0, .int .i64 0, .int .i64 0, .int .i64 0, .int .i64 0, .string ⟨#[]⟩, .int .i64 0, .int .i64 0, .int .i64 0, .bool false, .int .i64 0, .slice none 0 0, .int .i64 0, .int .i64 0] 32)) from (((((Kp.refl No W).alloc _).alloc _).alloc _).alloc _).alloc _)
  have pv : ∀ W2, Kp No (((((W.alloc (.cells #[.slice A D.length c] 42)).alloc (.cells (mcells m (.slice B m.stamp.length d)).toArray 32)).alloc (.cells #[.slice none 0 0] 42)).alloc (.cells #[.int .i64 0, .int .i64 0, .int .i64 0, .int .i64 0, .int .i64 0, .int .i64 0, .int .i64 0, .string ⟨#[]⟩, .int .i64 0, .int .i64 0, .int .i64 0, .bool false, .int .i64 0, .slice none 0 0, .int .i64 0, .int .i64 0] 32)).alloc (.cells #[.int .i64 0, .int .i64 0, .int .i64 0, .int .i64 0, .int .i64 0, .int .i64 0, .int .i64 0, .string ⟨#[]⟩, .int .i64 0, .int .i64 0, .int .i64 0, .bool false, .int .i64 0, .slice none 0 0, .int .i64 0, .int .i64 0] 32)) W2 → Calls Tryz.prog 24 #[.agg (mcells m (.slice B m.stamp.length d)).toArray] W2 fun e w' => e = .returned (.bool (decide (mayS vpP m))) ∧ Kp No (((((W.alloc (.cells #[.slice A D.length c] 42)).alloc (.cells (mcells m (.slice B m.stamp.length d)).toArray 32)).alloc (.cells #[.slice none 0 0] 42)).alloc (.cells #[.int .i64 0, .int .i64 0, .int .i64 0, .int .i64 0, .int .i64 0, .int .i64 0, .int .i64 0, .string ⟨#[]⟩, .int .i64 0, .int .i64 0, .int .i64 0, .bool false, .int .i64 0, .slice none 0 0, .int .i64 0, .int .i64 0] 32)).alloc (.cells #[.int .i64 0, .int .i64 0, .int .i64 0, .int .i64 0, .int .i64 0, .int .i64 0, .int .i64 0, .string ⟨#[]⟩, .int .i64 0, .int .i64 0, .int .i64 0, .bool false, .int .i64 0, .slice none 0 0, .int .i64 0, .int .i64 0] 32)) w' := fun W2 k =>
    (rvalid6_any m B d W2 ((hs.no HK0.out).no k) hm hp).mono fun e w' h => ⟨h.1, k.trans h.2⟩
  have HH := Lib.hid h
  have HQ := Lib.hid (show seenS (D.map toCl) m = (D.map toCl, 1, {}) from by unfold seenS; rw [if_neg hn])
  have H8 := Lib.hid h8; have HL8 := Lib.hid hl
  have HD : Hid (m.kind ≠ 1 ∨ m.kind = 1 ∧ ¬ mayS vpP m) := Lib.hid (by by_cases h1 : m.kind = 1 <;> simp_all)
  obtain ⟨C, hC⟩ : ∃ C, C = mcells ({} : Msg) (.slice none 0 0) := ⟨_, rfl⟩
  have HCL := Lib.hid (show C.length = 16 from by rw [hC]; rfl)
  have HCI : Hid ((Tryz.prog.info? 32).map (·.size) = some C.length) := Lib.hid (by rw [HCL.out]; kernel_rfl)
  have HCT : Hid ((Tryz.prog.info? 32).map (·.size) = some C.toArray.size) := Lib.hid (by rw [List.size_toArray, HCL.out]; kernel_rfl)
  have HCO := Lib.hid (show C.toArray.all (·.oneCell') = true from by rw [hC]; simp [mcells, Value.oneCell'])
  have HCE := Lib.hid hC
  have HN1 := Lib.hid (show Bk (((((W.alloc (.cells #[.slice A D.length c] 42)).alloc (.cells (mcells m (.slice B m.stamp.length d)).toArray 32)).alloc (.cells #[.slice none 0 0] 42)).alloc (.cells #[.int .i64 0, .int .i64 0, .int .i64 0, .int .i64 0, .int .i64 0, .int .i64 0, .int .i64 0, .string ⟨#[]⟩, .int .i64 0, .int .i64 0, .int .i64 0, .bool false, .int .i64 0, .slice none 0 0, .int .i64 0, .int .i64 0] 32)).alloc (.cells #[.int .i64 0, .int .i64 0, .int .i64 0, .int .i64 0, .int .i64 0, .int .i64 0, .int .i64 0, .string ⟨#[]⟩, .int .i64 0, .int .i64 0, .int .i64 0, .bool false, .int .i64 0, .slice none 0 0, .int .i64 0, .int .i64 0] 32)) (W.heap.size + 1 + 1 + 1 + 1) 32 C from by rw [hC]; exact HN0.out)
  clear h h8 hl hs hm hp hn hC
  have PV := Lib.hid pv; clear pv
  unfold mcells at PV HM0 HS0 HR20 HR30 HN1 HK0 ⊢
  go_enter Tryz.func18, Tryz.ntmps18
  go_upto_region 2 with (fail)
  go_cut [21] (fun s wx => s = .bool true ∧ Kp No W wx ∧ Bk wx W.heap.size 42 [.slice A D.length c] ∧ Bk wx (W.heap.size + 1 + 1) 42 [.slice none 0 0] ∧ Bk wx (W.heap.size + 1 + 1 + 1) 32 (mcells ({} : Msg) (.slice none 0 0)) ∧ Bk wx (W.heap.size + 1 + 1 + 1 + 1) 32 C)
  case first =>
    rcases HD.out with h1 | ⟨h1, h2⟩
    · have d1 : (m.kind != 1) = true := by rw [bne_iff_ne]; exact h1
      clear h1
      go_wp2
      go_meet
      exact ⟨rfl, HK0.out, HS0.out, HR20.out, HR30.out, HN1.out⟩
    · have d1 : (m.kind != 1) = false := by simp [h1]
      have pv := PV.out _ (Kp.refl No _)
      rw [decide_eq_false h2] at pv
      clear h1 h2
      go_wp2_with fail
      refine pv.mono ?_
      rintro e w6 ⟨rfl, k6⟩
      have K6 := Lib.hid k6; clear k6 pv
      go_wp2
      go_meet
      exact ⟨rfl, HK0.out.trans K6.out, HS0.out.no K6.out, HR20.out.no K6.out, HR30.out.no K6.out, HN1.out.no K6.out⟩
  case rest =>
    obtain ⟨rfl, kc, hs, hr2, hr3, hn4⟩ := hcut
    have HKC := Lib.hid kc; have HS := Lib.hid hs; have HR2 := Lib.hid hr2; have HR3 := Lib.hid hr3; have HCR := Lib.hid (range_of hn4)
    have HSM := Lib.hid (show ¬ One (W.heap.size + 1 + 1) (W.heap.size + 1 + 1 + 1 + 1) from fun e => by have e : (W.heap.size + 1 + 1 + 1 + 1) = (W.heap.size + 1 + 1) := e; omega)
    have hlt := hr3.lt
    clear kc hs hr2 hr3 hn4 PV HM0 HS0 HR20 HR30 HN0 HN1 HK0 HD
    have hF : (fun W2 => W2.cell? ⟨W.heap.size, 0, none⟩ = some (.slice A D.length c) ∧ W2.rangeAt (W.heap.size + 1 + 1 + 1 + 1) 0 C) wc.drew := ⟨HS.out.cell 0, HCR.out⟩
    have kx : Kp (One (W.heap.size + 1 + 1)) wc.drew (wc.drew.setCell ⟨(W.heap.size + 1 + 1), 0, none⟩ (.slice A D.length c)) := (Kp.refl (One (W.heap.size + 1 + 1)) wc.drew).set (.inl rfl) 0 _
    have HFB := Lib.hid (show (fun W2 => W2.cell? ⟨W.heap.size, 0, none⟩ = some (.slice A D.length c) ∧ W2.rangeAt (W.heap.size + 1 + 1 + 1 + 1) 0 C) (wc.drew.setCell ⟨(W.heap.size + 1 + 1), 0, none⟩ (.slice A D.length c)) from ⟨(HS.out.drew.kp kx (fun e => by have e : W.heap.size = (W.heap.size + 1 + 1) := e; omega)).cell 0, range_kp (range_kp HCR.out (Kp.refl No wc).drew (fun m => m)) kx HSM.out⟩)
    have hr3 := HR3.out.drew.kp kx (fun e => by have e : (W.heap.size + 1 + 1 + 1) = (W.heap.size + 1 + 1) := e; omega)
    have HTH := Lib.hid (show World.there (wc.drew.setCell ⟨(W.heap.size + 1 + 1), 0, none⟩ (.slice A D.length c)) (W.heap.size + 1 + 1 + 1) 0 C.toArray.size from hr3.there 0 _ (by rw [List.size_toArray, HCL.out]; simp [mcells]))
    have B8 : Bk (World.setCells (wc.drew.setCell ⟨(W.heap.size + 1 + 1), 0, none⟩ (.slice A D.length c)) (W.heap.size + 1 + 1 + 1) 0 C) (W.heap.size + 1 + 1 + 1) 32 C := by
      have h := Bk.sets C 0 hr3 (by rw [HCL.out]; simp [mcells])
      rw [List.take_zero, List.nil_append, List.drop_of_length_le (by rw [HCL.out]; simp [mcells]), List.append_nil] at h
      exact h
    have ky : Kp (One (W.heap.size + 1 + 1 + 1)) (wc.drew.setCell ⟨(W.heap.size + 1 + 1), 0, none⟩ (.slice A D.length c)) (World.setCells (wc.drew.setCell ⟨(W.heap.size + 1 + 1), 0, none⟩ (.slice A D.length c)) (W.heap.size + 1 + 1 + 1) 0 C) := Kp.sets _ 0 (Kp.refl _ _) (.inl rfl)
    have B7 : Bk (World.setCells (wc.drew.setCell ⟨(W.heap.size + 1 + 1), 0, none⟩ (.slice A D.length c)) (W.heap.size + 1 + 1 + 1) 0 C) (W.heap.size + 1 + 1) 42 [.slice A D.length c] := (HR2.out.drew.set_ 0 (.slice A D.length c)).kp ky (fun e => by have e : (W.heap.size + 1 + 1) = (W.heap.size + 1 + 1 + 1) := e; omega)
    have KW := Lib.hid (show Kp (fun q => q = (W.heap.size + 1 + 1) ∨ q = (W.heap.size + 1 + 1 + 1)) wc (World.setCells (wc.drew.setCell ⟨(W.heap.size + 1 + 1), 0, none⟩ (.slice A D.length c)) (W.heap.size + 1 + 1 + 1) 0 C) from (((Kp.refl _ wc).drew).then_ kx fun i _ e => .inl e).then_ ky fun i _ e => .inr e)
    have HB7 := Lib.hid B7; have HB8 := Lib.hid B8
    clear kx hr3 ky B7 B8
    go_upto_region 3 with (fail)
    refine rg_begin (fun W2 => W2.cell? ⟨W.heap.size, 0, none⟩ = some (.slice A D.length c) ∧ W2.rangeAt (W.heap.size + 1 + 1 + 1 + 1) 0 C) 4 (by kernel_rfl) ?_
    refine rg_take (i := 0) (v := ?va0) (by simp only [List.getElem?_toArray, List.getElem?_cons_zero]; rfl) (by kernel_rfl) (by exact fun _ _ _ h => h) (by rfl) ?ra0 hF ?sa0
    case ra0 => (intro W hW; obtain ⟨f1, f2⟩ := hW; go_simp; try with_reducible rfl)
    try simp only [Act.put, List.setIfInBounds_toArray, List.set_cons_zero, List.set_cons_succ]
    refine rg_take (i := 1) (v := ?va1) (by simp only [List.getElem?_toArray, List.getElem?_cons_succ, List.getElem?_cons_zero]; rfl) (by kernel_rfl) (by exact fun _ _ _ h => h) (by rfl) ?ra1 hF ?sa1
    case ra1 => (intro W9 hW; refine exec_load_mid W9 32 (.tmp 7) ?_ (W.heap.size + 1 + 1 + 1 + 1) 0 ?_ C _ hW.2 Tryz.underlying32 ?_ HCI.out; exact rfl; exact rfl; exact rfl)
    try simp only [Act.put, List.setIfInBounds_toArray, List.set_cons_zero, List.set_cons_succ]
    refine rg_one (i := 2) (oi := ?oa2) ?aa2 ?ba2 ?ca2 ?da2
    case aa2 => (simp only [List.getElem?_toArray, List.getElem?_cons_succ, List.getElem?_cons_zero]; rfl)
    case ba2 => kernel_rfl
    case ca2 => rfl
    intro K hK
    (have r0 : World.cell? wc.drew ⟨(W.heap.size + 1 + 1), 0, none⟩ = some (.slice none 0 0) := HR2.out.drew.cell 0; have rf := HR2.out.drew.frozen 0; go_simp)
    refine rg_use hK (HFB.out) (fun hF => ?_)
    clear hK K
    try simp only [Act.put, List.setIfInBounds_toArray, List.set_cons_zero, List.set_cons_succ]
    refine rg_take (i := 3) (v := ?va3) (by simp only [List.getElem?_toArray, List.getElem?_cons_succ, List.getElem?_cons_zero]; rfl) (by kernel_rfl) (by exact fun _ _ _ h => h) (by rfl) ?ra3 hF ?sa3
    case ra3 => (intro W hW; clear hW; go_simp; try with_reducible rfl)
    try simp only [Act.put, List.setIfInBounds_toArray, List.set_cons_zero, List.set_cons_succ]
    refine rg_one (i := 4) (oi := ?oa4) ?aa4 ?ba4 ?ca4 ?da4
    case aa4 => (simp only [List.getElem?_toArray, List.getElem?_cons_succ, List.getElem?_cons_zero]; rfl)
    case ba4 => kernel_rfl
    case ca4 => rfl
    intro K hK
    (refine wp_store_mid 32 _ _ rfl (W.heap.size + 1 + 1 + 1) 0 C.toArray rfl rfl HTH.out HCT.out HCO.out ?_)
    refine hK _ _ (fun h => absurd rfl h) ?_
    clear hK K
    try simp only [Act.put]
    refine rg_done (by kernel_rfl) ?_
    generalize hw9 : World.setCells _ (W.heap.size + 1 + 1 + 1) 0 _ = w9
    rw [show World.setCells (wc.drew.setCell ⟨(W.heap.size + 1 + 1), 0, none⟩ (.slice A D.length c)) (W.heap.size + 1 + 1 + 1) 0 C = w9 from hw9] at KW HB7 HB8
    clear hw9
    have y0 := HB7.out.cell 0
    have B9 := HB8.out
    rw [HCE.out] at B9
    have x0 := B9.cell 0
    have x1 := B9.cell 1
    have x2 := B9.cell 2
    have x3 := B9.cell 3
    have x4 := B9.cell 4
    have x5 := B9.cell 5
    have x6 := B9.cell 6
    have x7 := B9.cell 7
    have x8 := B9.cell 8
    have x9 := B9.cell 9
    have x10 := B9.cell 10
    have x11 := B9.cell 11
    have x12 := B9.cell 12
    have x13 := B9.cell 13
    have x14 := B9.cell 14
    have x15 := B9.cell 15
    simp only [mcells, List.getElem?_cons_zero, List.getElem?_cons_succ] at y0 x0 x1 x2 x3 x4 x5 x6 x7 x8 x9 x10 x11 x12 x13 x14 x15
    clear B9
    go_wp2
    refine bodyPost_ret (v := .tuple #[.agg #[.slice A D.length c], .int .i64 1, .agg (mcells ({} : Msg) (.slice none 0 0)).toArray]) (by simp [results, Tryz.results18, go_sem, y0, x0, x1, x2, x3, x4, x5, x6, x7, x8, x9, x10, x11, x12, x13, x14, x15, mcells]) rfl ?_
    have K9 := Lib.hid (HKC.out.then_ KW.out fun i hi e => by rcases e with e | e <;> omega)
    refine ⟨K9.out, .slice A D.length c, D, {}, .slice none 0 0, 1, rfl, HH.out.no K9.out, H8.out, HL8.out, by rw [HQ.out], by rw [HQ.out], SlI.nil _ _ _⟩
end Go.Proofs.YtaipbikbapjmjaaGreat

/- Words for the document's Seen of a request. No condition beyond what each theorem states. -/
namespace Go.Proofs.YtaipbikbapjmjaaGreat
open Go Go.RowKit Go.PlainAid

section
variable {P : Program} {ops : Array Oper} {Q : Exit → Act → World → Prop} {md : Region.Mode} {F : World → Prop} {d : Nat}
/-- the two that may come up -/
theorem rg_two {i j : Nat} {oi oj : Oper} {fuel : Nat} {listed : Array Bool} {a : Act} {w : World} (hi : ops[i]? = some oi) (hj : ops[j]? = some oj) (hr : (Region.ready md ops listed == [i, j]) = true) (hyi : Region.wanted oi (yielded ops a.tmps) = true) (hyj : Region.wanted oj (yielded ops a.tmps) = true)
    (h1 : ∀ K : Act → World → Prop, (∀ a w, (i ≠ d → F w) → wpAnyD P md ops Q F d fuel (listed.setIfInBounds i true) a w → K a w) → Oper.wp P oi a w K Q)
    (h2 : ∀ K : Act → World → Prop, (∀ a w, (j ≠ d → F w) → wpAnyD P md ops Q F d fuel (listed.setIfInBounds j true) a w → K a w) → Oper.wp P oj a w K Q) : wpAnyD P md ops Q F d (fuel + 1) listed a w := by
  have hr' : Region.ready md ops listed = [i, j] := by simpa using hr
  refine ⟨fun h0 => (by rw [hr'] at h0; cases h0), fun k hk => ?_⟩
  rw [hr'] at hk
  unfold wpOp
  rcases List.mem_cons.1 hk with rfl | hk
  · simp only [hi, hyi, if_true]
    exact .inl (h1 _ fun a w h1 h2 => ⟨h1, h2⟩)
  · obtain rfl : k = j := by simpa using hk
    simp only [hj, hyj, if_true]
    exact .inl (h2 _ fun a w h1 h2 => ⟨h1, h2⟩)
end
theorem seenS_old {st : List Cl} {m : Msg} (ha : m.kind = 1 ∧ mayS vpP m) (h : heardS (st.getD m.from_.toNat {}) m = none) : seenS st m = (st, 1, {}) := by
  unfold seenS; rw [if_pos ha, h]
theorem seenS_out {st : List Cl} {m : Msg} {c : Cl} (ha : m.kind = 1 ∧ mayS vpP m) (h : heardS (st.getD m.from_.toNat {}) m = some c) (ho : m.seq < c.low ∨ c.low + 8 ≤ m.seq) : seenS st m = (st.set m.from_.toNat c, 1, {}) := by
  unfold seenS; rw [if_pos ha, h]; simp only; rw [if_pos ho]
theorem seenS_kept {st : List Cl} {m a : Msg} {c : Cl} (ha : m.kind = 1 ∧ mayS vpP m) (h : heardS (st.getD m.from_.toNat {}) m = some c) (ho : ¬ (m.seq < c.low ∨ c.low + 8 ≤ m.seq)) (hf : findS c m.seq = some a) : seenS st m = (st.set m.from_.toNat c, 2, a) := by
  unfold seenS; rw [if_pos ha, h]; simp only; rw [if_neg ho, hf]
theorem seenS_new {st : List Cl} {m : Msg} {c : Cl} (ha : m.kind = 1 ∧ mayS vpP m) (h : heardS (st.getD m.from_.toNat {}) m = some c) (ho : ¬ (m.seq < c.low ∨ c.low + 8 ≤ m.seq)) (hf : findS c m.seq = none) : seenS st m = (st.set m.from_.toNat c, 3, {}) := by
  unfold seenS; rw [if_pos ha, h]; simp only; rw [if_neg ho, hf]
/-- what heard says, by one word -/
def HeardQ (y : Dc) (m : Msg) (B : Nat) (w : World) (t : Bool) (b l : Int) (A : Option Addr) (n c : Nat) : Prop :=
  (t = false ∧ heardS (toCl y) m = none) ∨ (t = true ∧ ∃ L : List (Msg × Value), heardS (toCl y) m = some (toCl ⟨b, l, .slice A n c, L⟩) ∧ AnsR w (.slice A n c) L ∧ L.length ≤ 8 ∧ ∀ a, A = some a → B ≤ a.block)
/-- answers whose row is not touched -/
theorem AnsR.kpv {w w' : World} {A : Option Addr} {n c : Nat} {L : List (Msg × Value)} {M : Nat → Prop} (h : AnsR w (.slice A n c) L) (hk : Kp M w w') (ha : ∀ a, A = some a → ¬ M a.block) (hi : ∀ g cs, Bk w g 3 cs → ¬ M g) : AnsR w' (.slice A n c) L := by
  obtain ⟨⟨A1, c1, e, hc, h1⟩, h2⟩ := h
  injection e with e1 e2 e3
  refine ⟨⟨A1, c1, by rw [e1, e2, e3], hc, fun hne => ?_⟩, fun x hx => (h2 x hx).kp hk hi⟩
  obtain ⟨g, o, cs, e4, hb, hr⟩ := h1 hne
  have hg : ¬ M g := ha ⟨g, o, none⟩ (by rw [e1, e4])
  exact ⟨g, o, cs, e4, hb.kp hk hg, range_kp hr hk hg⟩
theorem RefR.kp2 {w w' : World} {v : Value} {l : List Dc} {M : Nat → Prop} (h : RefR w v l) (hk : Kp M w w') (hm : ∀ g cs, Bk w g 75 cs → ¬ M g) (hd : ∀ x ∈ l, DcOk w' x) : RefR w' v l := by
  obtain ⟨⟨A, c, e, hc, h1⟩, _⟩ := h
  refine ⟨⟨A, c, e, hc, fun hne => ?_⟩, hd⟩
  obtain ⟨g, o, cs, e1, hb, hr⟩ := h1 hne
  exact ⟨g, o, cs, e1, hb.kp hk (hm g _ hb), range_kp hr hk (hm g _ hb)⟩
theorem HeardQ.kp {y : Dc} {m : Msg} {B : Nat} {w w' : World} {t : Bool} {b l : Int} {A : Option Addr} {n c : Nat} {M : Nat → Prop} (h : HeardQ y m B w t b l A n c) (hk : Kp M w w') (hm : ∀ g t cs, Bk w g t cs → t = 32 ∨ t = 3 → ¬ M g) : HeardQ y m B w' t b l A n c := by
  rcases h with h | ⟨h1, L, h2, h3, h4⟩
  · exact .inl h
  · exact .inr ⟨h1, L, h2, h3.kp hk hm, h4⟩
theorem HeardQ.no {y : Dc} {m : Msg} {B : Nat} {w w' : World} {t : Bool} {b l : Int} {A : Option Addr} {n c : Nat} (h : HeardQ y m B w t b l A n c) (hk : Kp No w w') : HeardQ y m B w' t b l A n c := h.kp hk fun _ _ _ _ _ m => m
theorem heard_out {x : Dc} {m : Msg} {B : Nat} {W w' : World} {e : Ending} (hB : B ≤ W.heap.size) (hx : DcOk W x) (hl : x.L.length ≤ 8) (h : HeardR x m W e w') : Kp No W w' ∧ ∃ (b l : Int) (A : Option Addr) (n c : Nat) (t : Bool), e = .returned (.tuple #[.agg #[.int .i64 b, .int .i64 l, .slice A n c], .bool t]) ∧ HeardQ x m B w' t b l A n c := by
  obtain ⟨k, h | ⟨y, h1, h2, h3, h4, h5⟩⟩ := h
  · obtain ⟨⟨A, c, hv, _⟩, _⟩ := hx
    refine ⟨k, x.boot, x.low, A, x.L.length, c, false, ?_, .inl ⟨rfl, h.1⟩⟩
    rw [h.2]; unfold dcC; rw [hv]
  · obtain ⟨b, l, v, L⟩ := y
    have h3' := h3
    obtain ⟨⟨A, c, hv, _⟩, _⟩ := h3
    simp only at hv
    subst hv
    exact ⟨k, b, l, A, _, c, true, h2, .inr ⟨rfl, L, h1, h3', by simp only at h4; omega, fun a e => Nat.le_trans hB (h5 a L.length c (by rw [e]))⟩⟩
theorem heard_low {c c' : Cl} {m : Msg} (h : heardS c m = some c') (hc : 1 ≤ c.low ∧ c.low ≤ 1099511627776) (hm : 1 ≤ m.low ∧ m.low ≤ 1099511627776) : 1 ≤ c'.low ∧ c'.low ≤ 1099511627776 := by
  unfold heardS at h
  split at h
  · cases h
  · split at h
    · injection h with h; rw [← h]; show 1 ≤ max 1 m.low ∧ max 1 m.low ≤ 1099511627776; omega
    · injection h with h; rw [← h]; show 1 ≤ max c.low m.low ∧ max c.low m.low ≤ 1099511627776; omega
end Go.Proofs.YtaipbikbapjmjaaGreat
