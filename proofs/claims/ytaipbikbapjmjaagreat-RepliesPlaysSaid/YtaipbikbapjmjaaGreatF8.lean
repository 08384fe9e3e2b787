/- Several texts of this claim in one. No condition beyond what each theorem states. -/
import Derived.Test.YtaipbikbapjmjaaGreatF4
import Derived.Test.YtaipbikbapjmjaaGreatF5
import Derived.Test.YtaipbikbapjmjaaGreatF6
import Derived.Test.YtaipbikbapjmjaaGreatF7
import Derived.Outline
import Derived.Test.YtaipbikbapjmjaaGreatC7
import Derived.Test.YtaipbikbapjmjaaGreatB18
import Derived.Test.YtaipbikbapjmjaaGreatB17
import Derived.Test.YtaipbikbapjmjaaGreatB20
/- The document's Seen of a request by contract. No condition beyond what each theorem states. -/
namespace Go.Proofs.YtaipbikbapjmjaaGreat
open Go Go.RowKit Go.PlainAid
theorem dseen_ask (A : Option Addr) (c : Nat) (D : List Dc) (m : Msg) (B : Option Addr) (d : Nat) (W : World) (h : RefR W (.slice A D.length c) D) (h8 : D.length = 8) (hl : ∀ x ∈ D, x.L.length ≤ 8) (hs : ArgInts W (.slice B m.stamp.length d) m.stamp) (hm : m.stamp.length ≤ maxLen) (hp : m.path.length ≤ 140737488355328) (ha : m.kind = 1 ∧ mayS vpP m) (hw : ∀ x ∈ D, 1 ≤ x.low ∧ x.low ≤ 1099511627776) :
    Calls Tryz.prog 18 #[.agg #[.slice A D.length c], .agg (mcells m (.slice B m.stamp.length d)).toArray] W (SeenD D m W) := by
  cases hh : heardS ((D.map toCl).getD m.from_.toNat {}) m with
  | none => exact dseen_ask1 A c D m B d W h h8 hl hs hm hp ha hw hh
  | some cc =>
    by_cases ho : m.seq < cc.low ∨ cc.low + 8 ≤ m.seq
    · exact dseen_ask2 A c D m B d W h h8 hl hs hm hp ha hw ⟨cc, hh, ho⟩
    · cases hf : findS cc m.seq with
      | none => exact dseen_ask4 A c D m B d W h h8 hl hs hm hp ha hw ⟨cc, hh, ho, hf⟩
      | some a => exact dseen_ask3 A c D m B d W h h8 hl hs hm hp ha hw ⟨cc, hh, ho, a, hf⟩
end Go.Proofs.YtaipbikbapjmjaaGreat

/- The document's Keep by contract. No condition beyond what each theorem states. -/
namespace Go.Proofs.YtaipbikbapjmjaaGreat
open Go Go.RowKit Go.PlainAid

/-- a whole array read under a guard that holds -/
theorem wpList_load_mid_g {P : Program} {ops : Array Oper} {rest : List Oper} {op : Oper} {a : Act} {w : World} {Q : Exit → Act → World → Prop} (hw : Region.wanted op (yielded ops a.tmps) = true) (ty : TypeId) (x : Operand) (ho : op.op = .load ty x)
    (b o : Nat) (hx : a.eval x = .pointer (some ⟨b, o, none⟩)) (cs : List Value) (d : TypeDesc) (hc : w.rangeAt b o cs)
    (hu : P.underlying ty = some d) (hd : d.isRow = true) (hi : (P.info? ty).map (·.size) = some cs.length)
    (h : wpList P ops Q rest (a.put op.dst (.agg cs.toArray)) w) : wpList P ops Q (op :: rest) a w :=
  wpList_step fun K hK => by
    rw [if_pos hw]
    exact wp_load_mid ty x ho b o hx cs d hc hu hd hi (hK _ _ h)
theorem wpList_build1 {P : Program} {ops : Array Oper} {rest : List Oper} {o : Oper} {a : Act} {w : World} {Q : Exit → Act → World → Prop} (hgd : o.guard = none) (t : TypeId) (x : Operand) (ho : o.op = .buildSlice t 1 #[(0, x)])
    (e : TypeId) (z : Value) (size bytes : Nat) (ht : P.underlying t = some (.slice e)) (hi : (P.info? e).map (fun i => (i.zero, i.size, i.bytes)) = some (some z, size, bytes))
    (h0 : 0 < size) (h1 : size ≤ 16777216) (v : Value) (hx : a.eval x = v) (cs : List Value) (hv : v.cells = cs.toArray) (hl : cs.length = size)
    (h : wpList P ops Q rest (a.put o.dst (.slice (some ⟨w.heap.size, 0, none⟩) 1 1)) (w.alloc (.cells cs.toArray e))) : wpList P ops Q (o :: rest) a w :=
  wpList_plain hgd fun _ hK => wp_build1 t x ho e z size bytes ht hi h0 h1 v hx cs hv hl (hK _ _ h)
theorem dseen_any (A : Option Addr) (c : Nat) (D : List Dc) (m : Msg) (B : Option Addr) (d : Nat) (W : World) (h : RefR W (.slice A D.length c) D) (h8 : D.length = 8) (hl : ∀ x ∈ D, x.L.length ≤ 8) (hs : ArgInts W (.slice B m.stamp.length d) m.stamp) (hm : m.stamp.length ≤ maxLen) (hp : m.path.length ≤ 140737488355328) (hw : ∀ x ∈ D, 1 ≤ x.low ∧ x.low ≤ 1099511627776) :
    Calls Tryz.prog 18 #[.agg #[.slice A D.length c], .agg (mcells m (.slice B m.stamp.length d)).toArray] W (SeenD D m W) := by
  by_cases ha : m.kind = 1 ∧ mayS vpP m
  · exact dseen_ask A c D m B d W h h8 hl hs hm hp ha hw
  · exact dseen_not A c D m B d W h h8 hl hs hm hp ha
def KeepD (D : List Dc) (m a : Msg) (W : World) (e : Ending) (w' : World) : Prop :=
  Kp No W w' ∧ ∃ (v : Value) (D' : List Dc) (b : Bool), e = .returned (.tuple #[.agg #[v], .bool b]) ∧ RefR w' v D' ∧ D'.length = 8 ∧ D'.map toCl = (keepS (D.map toCl) m a).1 ∧ b = (keepS (D.map toCl) m a).2
theorem keepD_end {D D' : List Dc} {m a : Msg} {W wc : World} {b : Bool} {q : Nat} {A : Option Addr} {n c : Nat} (hk : Kp No W wc) (hq : W.heap.size ≤ q) (hz : Bk wc q 42 [.slice none 0 0]) (hr : RefR wc (.slice A n c) D') (h8 : D'.length = 8) (hc : D'.map toCl = (keepS (D.map toCl) m a).1) (hb : b = (keepS (D.map toCl) m a).2) :
    KeepD D m a W (.returned (.tuple #[.agg #[.slice A n c], .bool b])) (wc.setCell ⟨q, 0, none⟩ (.slice A n c)) :=
  ⟨hk.set (.inr hq) 0 _, _, D', b, rfl, hr.kp ((Kp.refl (One q) wc).set (.inl rfl) 0 _) (fun g t cs h ht e => by
    have e : g = q := e
    subst e
    exact h.ne_ hz (by rcases ht with rfl | rfl | rfl <;> decide) rfl), h8, hc, hb⟩
theorem keepS_no {st : List Cl} {m a : Msg} (h : ¬ ((seenS st m).2.1 = 3 ∧ fitsS m a)) : keepS st m a = ((seenS st m).1, false) := by
  unfold keepS; rw [if_neg h]
theorem keepS_yes {st : List Cl} {m a : Msg} (h : (seenS st m).2.1 = 3 ∧ fitsS m a) : keepS st m a = ((seenS st m).1.set m.from_.toNat (addS ((seenS st m).1.getD m.from_.toNat {}) a), true) := by
  unfold keepS; rw [if_pos h]
theorem kpB_own {w w1 w2 : World} {B n s : Nat} {t : TypeId} {v : Value} {xs : List Value} (hB : w.heap.size ≤ B) (ho : w1.ownsRow B t s v n xs) (hk : Kp No w w1) (h2 : Kp (fun q => v.ownBlock = some q) w1 w2) : Kp No w w2 :=
  hk.then_ h2 fun i hi e => by
    rcases ho.2 with ⟨e2, _⟩ | ⟨g, cap, cur, e2, hg, _⟩
    · rw [e2] at e; simp [Value.ownBlock] at e
    · rw [e2] at e
      have : g = i := by simpa [Value.ownBlock] using e
      omega
set_option maxRecDepth 100000 in
set_option maxHeartbeats 20000000 in
theorem dkeep_any (A : Option Addr) (c : Nat) (D : List Dc) (m a : Msg) (B Ba : Option Addr) (d da : Nat) (W : World) (h : RefR W (.slice A D.length c) D) (h8 : D.length = 8) (hl : ∀ x ∈ D, x.L.length ≤ 8) (hs : ArgInts W (.slice B m.stamp.length d) m.stamp) (hm : m.stamp.length ≤ maxLen) (hp : m.path.length ≤ 140737488355328) (hw : ∀ x ∈ D, 1 ≤ x.low ∧ x.low ≤ 1099511627776) (hsa : SlI W (.slice Ba a.stamp.length da) a.stamp) (hma : a.stamp.length ≤ maxLen) (hpa : a.path.length ≤ 140737488355328) :
    Calls Tryz.prog 16 #[.agg #[.slice A D.length c], .agg (mcells m (.slice B m.stamp.length d)).toArray, .agg (mcells a (.slice Ba a.stamp.length da)).toArray] W (KeepD D m a W) := by
  have HM0 := Lib.hid (show Bk ((((W.alloc (.cells #[.slice A D.length c] 42)).alloc (.cells (mcells m (.slice B m.stamp.length d)).toArray 32)).alloc (.cells (mcells a (.slice Ba a.stamp.length da)).toArray 32)).alloc (.cells #[.slice none 0 0] 42)) (W.heap.size + 1) 32 (mcells m (.slice B m.stamp.length d)) from (((Bk.new' (by simp) rfl).alloc _).alloc _))
  have HA0 := Lib.hid (show Bk ((((W.alloc (.cells #[.slice A D.length c] 42)).alloc (.cells (mcells m (.slice B m.stamp.length d)).toArray 32)).alloc (.cells (mcells a (.slice Ba a.stamp.length da)).toArray 32)).alloc (.cells #[.slice none 0 0] 42)) (W.heap.size + 1 + 1) 32 (mcells a (.slice Ba a.stamp.length da)) from ((Bk.new' (by simp) rfl).alloc _))
  have HRZ0 := Lib.hid (show Bk ((((W.alloc (.cells #[.slice A D.length c] 42)).alloc (.cells (mcells m (.slice B m.stamp.length d)).toArray 32)).alloc (.cells (mcells a (.slice Ba a.stamp.length da)).toArray 32)).alloc (.cells #[.slice none 0 0] 42)) (W.heap.size + 1 + 1 + 1) 42 [.slice none 0 0] from Bk.new' (by simp) rfl)
  have HK0 := Lib.hid (show Kp No W ((((W.alloc (.cells #[.slice A D.length c] 42)).alloc (.cells (mcells m (.slice B m.stamp.length d)).toArray 32)).alloc (.cells (mcells a (.slice Ba a.stamp.length da)).toArray 32)).alloc (.cells #[.slice none 0 0] 42)) from ((((Kp.refl No W).alloc _).alloc _).alloc _).alloc _)
  have ps := dseen_any A c D m B d ((((W.alloc (.cells #[.slice A D.length c] 42)).alloc (.cells (mcells m (.slice B m.stamp.length d)).toArray 32)).alloc (.cells (mcells a (.slice Ba a.stamp.length da)).toArray 32)).alloc (.cells #[.slice none 0 0] 42)) (h.no HK0.out) h8 hl (hs.no HK0.out) hm hp hw
  have HSA := Lib.hid hsa
  have PV := Lib.hid (show ∀ W2, Kp No W W2 → Calls Tryz.prog 24 #[.agg (mcells a (.slice Ba a.stamp.length da)).toArray] W2 fun e w' => e = .returned (.bool (decide (mayS vpP a))) ∧ Kp No W2 w' from fun W2 k => rvalid6_any a Ba da W2 ((SlI.arg hsa).no k) hma hpa)
  clear h h8 hl hs hm hp hw hsa hma hpa
  obtain ⟨CA, hCA⟩ : ∃ C, C = (mcells a (.slice Ba a.stamp.length da)) := ⟨_, rfl⟩
  have HUH := Lib.hid (Tryz.underlying32)
  have HCA := Lib.hid hCA
  have hia : Hid ((Tryz.prog.info? 32).map (·.size) = some CA.length) := Lib.hid (by rw [hCA]; kernel_rfl)
  clear hCA
  have HM1 := HM0; have HA1 := HA0; have HZ1 := HRZ0; have HK1 := HK0
  clear HM0 HA0 HRZ0 HK0
  unfold mcells at ps ⊢
  go_enter Tryz.func16, Tryz.ntmps16
  go_wp2_with fail
  refine ps.mono ?_
  rintro e w5 ⟨k5, v5, D5, a5, sv5, vd, rfl, hr5, h85, hl5, hc5, hv5, hsl5⟩
  have hr0 := hr5
  obtain ⟨⟨A5, c5, rfl, _, _⟩, _⟩ := hr0
  have hs0 := hsl5
  obtain ⟨A6, c6, rfl, _, _⟩ := hs0
  have HM5 := Lib.hid (HM1.out.no k5); have HA5 := Lib.hid (HA1.out.no k5); have HZ5 := Lib.hid (HZ1.out.no k5); have HK5 := Lib.hid (HK1.out.trans k5)
  have HR5 := Lib.hid hr5; have H85 := Lib.hid h85; have HC5 := Lib.hid hc5; have HV5 := Lib.hid hv5; have HL5 := Lib.hid hl5
  have HB1 := Lib.hid (show Bk ((w5.alloc (.cells #[.slice A5 D5.length c5] 42)).alloc (.cells #[.int .i64 0, .int .i64 0, .int .i64 0, .int .i64 0, .int .i64 0, .int .i64 0, .int .i64 0, .string ⟨#[]⟩, .int .i64 0, .int .i64 0, .int .i64 0, .bool false, .int .i64 0, .slice none 0 0, .int .i64 0, .int .i64 0] 32)) (w5.heap.size + 1) 32 (mcells ({} : Msg) (.slice none 0 0)) from Bk.new' (by simp) rfl)
  have HTH := Lib.hid (show World.there ((w5.alloc (.cells #[.slice A5 D5.length c5] 42)).alloc (.cells #[.int .i64 0, .int .i64 0, .int .i64 0, .int .i64 0, .int .i64 0, .int .i64 0, .int .i64 0, .string ⟨#[]⟩, .int .i64 0, .int .i64 0, .int .i64 0, .bool false, .int .i64 0, .slice none 0 0, .int .i64 0, .int .i64 0] 32)) (w5.heap.size + 1) 0 (mcells a5 (.slice A6 a5.stamp.length c6)).toArray.size from HB1.out.there 0 _ (by simp [mcells]))
  clear ps hr5 h85 hl5 hc5 hv5 hsl5 HM1 HA1 HZ1 HK1 k5
  go_upto_region 2 with (with_reducible refine wpList_store_mid rfl _ _ _ rfl (w5.heap.size + 1) 0 (mcells a5 (.slice A6 a5.stamp.length c6)).toArray rfl rfl HTH.out (msg_info _ _) (msg_one _ _ _ _) ?_)
  generalize hw6 : World.setCells ((w5.alloc (.cells #[.slice A5 D5.length c5] 42)).alloc (.cells #[.int .i64 0, .int .i64 0, .int .i64 0, .int .i64 0, .int .i64 0, .int .i64 0, .int .i64 0, .string ⟨#[]⟩, .int .i64 0, .int .i64 0, .int .i64 0, .bool false, .int .i64 0, .slice none 0 0, .int .i64 0, .int .i64 0] 32)) (w5.heap.size + 1) 0 (mcells a5 (.slice A6 a5.stamp.length c6)) = w6
  have k6 : Kp No w5 w6 := by rw [← hw6]; exact Kp.sets _ 0 (((Kp.refl No w5).alloc _).alloc _) (.inr (by omega))
  have HB6 := Lib.hid (show Bk w6 w5.heap.size 42 [.slice A5 D5.length c5] from by
    rw [← hw6]
    exact ((show Bk (w5.alloc (.cells #[.slice A5 D5.length c5] 42)) w5.heap.size 42 [.slice A5 D5.length c5] from Bk.new' rfl rfl).alloc _).kp (Kp.sets _ 0 (Kp.refl (One (w5.heap.size + 1)) _) (.inl rfl)) (fun e => by have e : w5.heap.size = w5.heap.size + 1 := e; omega))
  clear hw6 HB1 HTH
  have HM := Lib.hid (HM5.out.no k6); have HA := Lib.hid (HA5.out.no k6); have HRZ := Lib.hid (HZ5.out.no k6); have HKC := Lib.hid (HK5.out.trans k6); have HR := Lib.hid (HR5.out.no k6)
  have hlt : (W.heap.size + 1 + 1 + 1) < w5.heap.size := HZ5.out.lt
  clear k6 HM5 HA5 HZ5 HK5 HR5
  generalize w5.heap.size = b6 at *
  have hD5 : D5.length = 8 := H85.out
  simp only [Act.put]
  go_cut [32] (fun s wx => s = .bool (decide (¬ (vd = 3 ∧ a.kind = 2 ∧ mayS vpP a))) ∧ Kp No w6 wx)
  case first =>
    have u0 : w6.cell? ⟨(W.heap.size + 1 + 1), 0, none⟩ = some (.int .i64 a.kind) := HA.out.cell 0
    have HRA := Lib.hid (show w6.rangeAt (W.heap.size + 1 + 1) 0 CA from by rw [HCA.out]; exact range_of HA.out)
    have pv := PV.out w6 HKC.out
    rw [← HCA.out] at pv
    by_cases h1 : vd = 3
    · have d1 : (vd != 3) = false := by simp [h1]
      by_cases h2 : a.kind = 2
      · have d2 : (a.kind != 2) = false := by simp [h2]
        by_cases h3 : mayS vpP a
        · have HXX := Lib.hid (show decide (¬ (vd = 3 ∧ a.kind = 2 ∧ mayS vpP a)) = false from decide_eq_false (fun h => h ⟨h1, h2, h3⟩))
          rw [decide_eq_true h3] at pv
          clear h1 h2 h3
          go_wp2_with (refine wpList_load_mid_g (by rfl) _ _ rfl (W.heap.size + 1 + 1) 0 rfl CA _ HRA.out HUH.out rfl hia.out ?_)
          refine pv.mono ?_
          rintro e w7 ⟨rfl, k7⟩
          clear pv
          go_wp2
          go_meet
          exact ⟨by rw [HXX.out], k7⟩
        · have HXX := Lib.hid (show decide (¬ (vd = 3 ∧ a.kind = 2 ∧ mayS vpP a)) = true from decide_eq_true (fun h => h3 h.2.2))
          rw [decide_eq_false h3] at pv
          clear h1 h2 h3
          go_wp2_with (refine wpList_load_mid_g (by rfl) _ _ rfl (W.heap.size + 1 + 1) 0 rfl CA _ HRA.out HUH.out rfl hia.out ?_)
          refine pv.mono ?_
          rintro e w7 ⟨rfl, k7⟩
          clear pv
          go_wp2
          go_meet
          exact ⟨by rw [HXX.out], k7⟩
      · have d2 : (a.kind != 2) = true := by rw [bne_iff_ne]; exact h2
        have HXX := Lib.hid (show decide (¬ (vd = 3 ∧ a.kind = 2 ∧ mayS vpP a)) = true from decide_eq_true (fun h => h2 h.2.1))
        clear h1 h2 pv
        go_wp2
        go_meet
        exact ⟨by rw [HXX.out], Kp.refl _ _⟩
    · have d1 : (vd != 3) = true := by rw [bne_iff_ne]; exact h1
      have HXX := Lib.hid (show decide (¬ (vd = 3 ∧ a.kind = 2 ∧ mayS vpP a)) = true from decide_eq_true (fun h => h1 h.1))
      clear h1 pv
      go_wp2
      go_meet
      exact ⟨by rw [HXX.out], Kp.refl _ _⟩
  case rest =>
    obtain ⟨rfl, k7⟩ := hcut
    have HM7 := Lib.hid (HM.out.no k7); have HA7 := Lib.hid (HA.out.no k7); have HZ7 := Lib.hid (HRZ.out.no k7); have HK7 := Lib.hid (HKC.out.trans k7); have HR7 := Lib.hid (HR.out.no k7); have HB7 := Lib.hid (HB6.out.no k7)
    clear k7 HM HA HRZ HKC HR HB6 PV
    have HM := HM7; have HA := HA7; have HRZ := HZ7; have HKC := HK7; have HR := HR7; have HB6 := HB7
    clear HM7 HA7 HZ7 HK7 HR7 HB7
    have HV1 := Lib.hid (show (seenS (D.map toCl) m).2.1 = vd from (congrArg Prod.fst HV5.out).symm)
    by_cases hv : vd = 3 ∧ a.kind = 2 ∧ mayS vpP a
    · rw [decide_eq_false (fun h => h hv)]
      have HVV := Lib.hid hv; clear hv
      have u1 : wc.cell? ⟨(W.heap.size + 1), 1, none⟩ = some (.int .i64 m.from_) := HM.out.cell 1
      have u2 : wc.cell? ⟨(W.heap.size + 1), 2, none⟩ = some (.int .i64 m.dest) := HM.out.cell 2
      have u3 : wc.cell? ⟨(W.heap.size + 1), 3, none⟩ = some (.int .i64 m.boot) := HM.out.cell 3
      have u4 : wc.cell? ⟨(W.heap.size + 1), 4, none⟩ = some (.int .i64 m.seq) := HM.out.cell 4
      have t1 : wc.cell? ⟨(W.heap.size + 1 + 1), 1, none⟩ = some (.int .i64 a.from_) := HA.out.cell 1
      have t2 : wc.cell? ⟨(W.heap.size + 1 + 1), 2, none⟩ = some (.int .i64 a.dest) := HA.out.cell 2
      have t3 : wc.cell? ⟨(W.heap.size + 1 + 1), 3, none⟩ = some (.int .i64 a.boot) := HA.out.cell 3
      have t4 : wc.cell? ⟨(W.heap.size + 1 + 1), 4, none⟩ = some (.int .i64 a.seq) := HA.out.cell 4
      go_upto_region 4 with (fail)
      go_cut [59] (fun s wx => s = .bool (decide (¬ (a.from_ = m.dest ∧ a.dest = m.from_ ∧ a.boot = m.boot ∧ a.seq = m.seq))) ∧ wc = wx)
      case first =>
        by_cases e0 : a.from_ = m.dest
        · have d0 : (a.from_ != m.dest) = false := by rw [bne_eq_false_iff_eq]; exact e0
          by_cases e1 : a.dest = m.from_
          · have d1 : (a.dest != m.from_) = false := by rw [bne_eq_false_iff_eq]; exact e1
            by_cases e2 : a.boot = m.boot
            · have d2 : (a.boot != m.boot) = false := by rw [bne_eq_false_iff_eq]; exact e2
              by_cases e3 : a.seq = m.seq
              · have d3 : (a.seq != m.seq) = false := by rw [bne_eq_false_iff_eq]; exact e3
                have HXX := Lib.hid (show decide (¬ (a.from_ = m.dest ∧ a.dest = m.from_ ∧ a.boot = m.boot ∧ a.seq = m.seq)) = false from decide_eq_false (fun h => h ⟨e0, e1, e2, e3⟩))
                clear e0 e1 e2 e3
                go_wp2
                go_meet
                exact ⟨by rw [HXX.out], by first | trivial | rfl⟩
              · have d3 : (a.seq != m.seq) = true := by rw [bne_iff_ne]; exact e3
                have HXX := Lib.hid (show decide (¬ (a.from_ = m.dest ∧ a.dest = m.from_ ∧ a.boot = m.boot ∧ a.seq = m.seq)) = true from decide_eq_true (fun h => e3 h.2.2.2))
                clear e0 e1 e2 e3
                go_wp2
                go_meet
                exact ⟨by rw [HXX.out], by first | trivial | rfl⟩
            · have d2 : (a.boot != m.boot) = true := by rw [bne_iff_ne]; exact e2
              have HXX := Lib.hid (show decide (¬ (a.from_ = m.dest ∧ a.dest = m.from_ ∧ a.boot = m.boot ∧ a.seq = m.seq)) = true from decide_eq_true (fun h => e2 h.2.2.1))
              clear e0 e1 e2
              go_wp2
              go_meet
              exact ⟨by rw [HXX.out], by first | trivial | rfl⟩
          · have d1 : (a.dest != m.from_) = true := by rw [bne_iff_ne]; exact e1
            have HXX := Lib.hid (show decide (¬ (a.from_ = m.dest ∧ a.dest = m.from_ ∧ a.boot = m.boot ∧ a.seq = m.seq)) = true from decide_eq_true (fun h => e1 h.2.1))
            clear e0 e1
            go_wp2
            go_meet
            exact ⟨by rw [HXX.out], by first | trivial | rfl⟩
        · have d0 : (a.from_ != m.dest) = true := by rw [bne_iff_ne]; exact e0
          have HXX := Lib.hid (show decide (¬ (a.from_ = m.dest ∧ a.dest = m.from_ ∧ a.boot = m.boot ∧ a.seq = m.seq)) = true from decide_eq_true (fun h => e0 h.1))
          clear e0
          go_wp2
          go_meet
          exact ⟨by rw [HXX.out], by first | trivial | rfl⟩
      case rest =>
        obtain ⟨rfl, rfl⟩ := hcut
        clear u2 u3 u4 t1 t2 t3 t4
        by_cases hf : a.from_ = m.dest ∧ a.dest = m.from_ ∧ a.boot = m.boot ∧ a.seq = m.seq
        · rw [decide_eq_false (fun h => h hf)]
          have HFT := Lib.hid (show fitsS m a from ⟨HVV.out.2.1, HVV.out.2.2, hf⟩)
          clear hf
          have HV3 := Lib.hid (show (seenS (D.map toCl) m).2.1 = 3 from HV1.out.trans HVV.out.1)
          obtain ⟨hmk, hmm, _⟩ := seen_new HV3.out
          obtain ⟨j, hj⟩ : ∃ j : Nat, m.from_ = (j : Int) := ⟨m.from_.toNat, by have := (may_ask hmm hmk).1; unfold nodeI at this; omega⟩
          have hj8 : j < 8 := by have := (may_ask hmm hmk).1; unfold nodeI at this; omega
          clear hmk hmm
          have HYS := Lib.hid (keepS_yes (st := D.map toCl) (m := m) (a := a) ⟨HV3.out, HFT.out⟩)
          have HJ := Lib.hid hj
          rw [hj] at u1
          have hjD : j < D5.length := by omega
          have hj0 : (0 : Int) ≤ (j : Int) := by omega
          have hj1 : (j : Int) < (D5.length : Int) := by omega
          obtain ⟨g5, o5, c9, e0, _, hrg, hy⟩ := HR.out.at_ hjD
          injection e0 with e1 _ e2
          subst e1; subst e2
          obtain ⟨x, hx⟩ : ∃ x, x = D5[j] := ⟨_, rfl⟩
          rw [← hx] at hrg hy
          have hL8 : x.L.length ≤ 8 := by rw [hx]; exact HL5.out _ (List.getElem_mem hjD)
          have HXE := Lib.hid hx
          obtain ⟨L, hLL⟩ : ∃ L, L = x.L := ⟨_, rfl⟩
          have HLL := Lib.hid hLL
          have HL := Lib.hid (show AnsR wc x.v L from by rw [hLL]; exact hy)
          obtain ⟨⟨Ax, cL, hxv, _, _⟩, _⟩ := HL.out
          rw [hxv] at HL
          have HXV := Lib.hid hxv
          rw [← hLL] at hL8
          have q0 : wc.cell? ⟨g5, o5 + j * 3, none⟩ = some (.int .i64 x.boot) := hrg 0 _ rfl
          have q1 : wc.cell? ⟨g5, o5 + j * 3 + 1, none⟩ = some (.int .i64 x.low) := hrg 1 _ rfl
          have q2 : wc.cell? ⟨g5, o5 + j * 3 + 2, none⟩ = some (.slice Ax L.length cL) := by rw [← hxv]; exact hrg 2 _ rfl
          have z8 : wc.cell? ⟨b6, 0, none⟩ = some (.slice (some ⟨g5, o5, none⟩) D5.length c5) := HB6.out.cell 0
          clear hj hx hLL hxv hrg hy
          go_wp2
          have HC := Lib.hid (show Bk ((wc.alloc (.cells #[.int .i64 x.boot, .int .i64 x.low, .slice Ax L.length cL] 75)).alloc (.cells #[.int .i64 x.boot, .int .i64 x.low, .slice none 0 0] 75)) wc.heap.size 75 [.int .i64 x.boot, .int .i64 x.low, .slice Ax L.length cL] from (Bk.new' rfl rfl).alloc _)
          have HN := Lib.hid (show Bk ((wc.alloc (.cells #[.int .i64 x.boot, .int .i64 x.low, .slice Ax L.length cL] 75)).alloc (.cells #[.int .i64 x.boot, .int .i64 x.low, .slice none 0 0] 75)) (wc.heap.size + 1) 75 [.int .i64 x.boot, .int .i64 x.low, .slice none 0 0] from Bk.new' (by simp) rfl)
          have HK := Lib.hid (show Kp No wc ((wc.alloc (.cells #[.int .i64 x.boot, .int .i64 x.low, .slice Ax L.length cL] 75)).alloc (.cells #[.int .i64 x.boot, .int .i64 x.low, .slice none 0 0] 75)) from ((Kp.refl No wc).alloc _).alloc _)
          have HB0 := Lib.hid (Nat.le_refl wc.heap.size)
          clear q0 q1 q2 u1 z8
          go_loopw [13] (fun t wr => ∃ (k : Nat) (v2 : Value), k ≤ L.length ∧ t = .int .i64 k ∧ Bk wr (wc.heap.size + 1) 75 [.int .i64 x.boot, .int .i64 x.low, v2] ∧ wr.ownsRow wc.heap.size 32 16 v2 k (ansC (L.take k)) ∧ Bk wr wc.heap.size 75 [.int .i64 x.boot, .int .i64 x.low, .slice Ax L.length cL] ∧ Kp No wc wr) (fun t _ => L.length - (intOf t).toNat)
          case atStart => exact ⟨0, _, Nat.zero_le _, rfl, HN.out, nil_own _ _ _ _, HC.out, HK.out⟩
          case round =>
          obtain ⟨k, v2, hk, rfl, hn, ho, hc9, hkp⟩ := hrel
          obtain ⟨A2, c2, rfl, hc2⟩ := own_len ho
          clear HN HC HK
          have HN := Lib.hid hn; have HC := Lib.hid hc9; have HO := Lib.hid ho; have HK := Lib.hid hkp
          have z0 : wr.cell? ⟨wc.heap.size, 2, none⟩ = some (.slice Ax L.length cL) := hc9.cell 2
          have hsz : (wc.heap.size + 1) < wr.heap.size := hn.lt
          clear hn hc9 ho hkp
          by_cases hlt : k < L.length
          · obtain ⟨g, o, c3, e, _, hr, hs⟩ := HL.out.at_ hlt
            injection e with e1 _ e2
            subst e1; subst e2
            obtain ⟨y, hy⟩ : ∃ y, y = L[k] := ⟨_, rfl⟩
            have HTK := Lib.hid (show L.take (k + 1) = L.take k ++ [y] from by rw [List.take_succ_eq_append_getElem hlt, hy])
            rw [← hy] at hr hs
            have hk1 : (k : Int) < (L.length : Int) := by omega
            have hk0 : (0 : Int) ≤ (k : Int) := by omega
            have hk8 : k ≤ 8 := by omega
            have hrr := range_kp hr HK.out (fun m => m)
            have hgW : g < wc.heap.size := World.block_lt_of_cell? wc _ (hr 0 _ rfl)
            obtain ⟨ym, ysv⟩ := y
            simp only at hr hs hrr
            obtain ⟨Ay, cy, rfl, _⟩ : ∃ A c, ysv = .slice A ym.stamp.length c ∧ True := by obtain ⟨A, c, e, _⟩ := hs; exact ⟨A, c, e, trivial⟩
            obtain ⟨C, hC⟩ : ∃ C, C = mcells ym (.slice Ay ym.stamp.length cy) := ⟨_, rfl⟩
            rw [← hC] at hrr
            have HCL := Lib.hid (show C.length = 16 from by rw [hC]; rfl)
            have HC1 := Lib.hid (show ∀ u ∈ C, u.oneCell' = true from by rw [hC]; simp [mcells, Value.oneCell'])
            have HCI : Hid ((Tryz.prog.info? 32).map (·.size) = some C.length) := Lib.hid (by rw [HCL.out]; kernel_rfl)
            have HCE := Lib.hid hC
            have z3 : wr.cell? ⟨(wc.heap.size + 1), 2, none⟩ = some (.slice A2 k c2) := HN.out.cell 2
            have HOB := Lib.hid (show ∀ q, (Value.slice A2 k c2).ownBlock = some q → wc.heap.size ≤ q from fun q e => by
              rcases HO.out.2 with ⟨e2, _⟩ | ⟨g', cap, cur, e2, hg, _⟩
              · rw [e2] at e; simp [Value.ownBlock] at e
              · rw [e2] at e
                have : g' = q := by simpa [Value.ownBlock] using e
                subst this; exact hg)
            have hF : (fun W2 => W2.cell? ⟨(wc.heap.size + 1), 2, none⟩ = some (.slice A2 k c2) ∧ W2.cell? ⟨wc.heap.size, 2, none⟩ = some (.slice (some ⟨g, o, none⟩) L.length cL) ∧ W2.rangeAt g (o + k * 16) C) wr.drew := ⟨z3, z0, hrr⟩
            have HFB := Lib.hid (show (fun W2 => W2.cell? ⟨(wc.heap.size + 1), 2, none⟩ = some (.slice A2 k c2) ∧ W2.cell? ⟨wc.heap.size, 2, none⟩ = some (.slice (some ⟨g, o, none⟩) L.length cL) ∧ W2.rangeAt g (o + k * 16) C) (wr.drew.alloc (.cells C.toArray 32)) from ⟨((HN.out.no (Kp.refl No wr).drew).alloc _).cell 2, ((HC.out.no (Kp.refl No wr).drew).alloc _).cell 2, range_kp hrr ((Kp.refl No wr).drew.alloc _) (fun m => m)⟩)
            have HFC := Lib.hid (show ∀ w1, Kp (fun q => (Value.slice A2 k c2).ownBlock = some q) (wr.drew.alloc (.cells C.toArray 32)) w1 → w1.rangeAt g (o + k * 16) C from fun w1 h1 => range_kp (range_kp hrr ((Kp.refl No wr).drew.alloc (.cells C.toArray 32)) (fun m => m)) h1 (fun e => by have := HOB.out _ e; have := HB0.out; omega))
            clear hr hs hC z3 hrr hy
            go_upto_region 11 with (fail)
            clear z0
            refine rg_begin (fun W2 => W2.cell? ⟨(wc.heap.size + 1), 2, none⟩ = some (.slice A2 k c2) ∧ W2.cell? ⟨wc.heap.size, 2, none⟩ = some (.slice (some ⟨g, o, none⟩) L.length cL) ∧ W2.rangeAt g (o + k * 16) C) 10 (by kernel_rfl) ?_
            refine rg_take (i := 0) (v := ?vp0) (by simp only [List.getElem?_toArray, List.getElem?_cons_zero]; rfl) (by kernel_rfl) (by exact fun _ _ _ h => h) (by rfl) ?rp0 hF ?sp0
            case rp0 => (intro W hW; clear hW; go_simp; try with_reducible rfl)
            try simp only [Act.put, List.setIfInBounds_toArray, List.set_cons_zero, List.set_cons_succ]
            refine rg_take (i := 1) (v := ?vp1) (by simp only [List.getElem?_toArray, List.getElem?_cons_succ, List.getElem?_cons_zero]; rfl) (by kernel_rfl) (by exact fun _ _ _ h => h) (by rfl) ?rp1 hF ?sp1
            case rp1 => (intro W hW; obtain ⟨f1, f2, f3⟩ := hW; go_simp; try with_reducible rfl)
            try simp only [Act.put, List.setIfInBounds_toArray, List.set_cons_zero, List.set_cons_succ]
            refine rg_take (i := 2) (v := ?vp2) (by simp only [List.getElem?_toArray, List.getElem?_cons_succ, List.getElem?_cons_zero]; rfl) (by kernel_rfl) (by exact fun _ _ _ h => h) (by rfl) ?rp2 hF ?sp2
            case rp2 => (intro W hW; clear hW; go_simp; try with_reducible rfl)
            try simp only [Act.put, List.setIfInBounds_toArray, List.set_cons_zero, List.set_cons_succ]
            refine rg_take (i := 3) (v := ?vp3) (by simp only [List.getElem?_toArray, List.getElem?_cons_succ, List.getElem?_cons_zero]; rfl) (by kernel_rfl) (by exact fun _ _ _ h => h) (by rfl) ?rp3 hF ?sp3
            case rp3 => (intro W hW; obtain ⟨f1, f2, f3⟩ := hW; go_simp; try with_reducible rfl)
            try simp only [Act.put, List.setIfInBounds_toArray, List.set_cons_zero, List.set_cons_succ]
            refine rg_take (i := 4) (v := ?vp4) (by simp only [List.getElem?_toArray, List.getElem?_cons_succ, List.getElem?_cons_zero]; rfl) (by kernel_rfl) (by exact fun _ _ _ h => h) (by rfl) ?rp4 hF ?sp4
            case rp4 => (intro W hW; clear hW; go_simp; try with_reducible rfl)
            try simp only [Act.put, List.setIfInBounds_toArray, List.set_cons_zero, List.set_cons_succ]
            refine rg_take (i := 5) (v := ?vp5) (by simp only [List.getElem?_toArray, List.getElem?_cons_succ, List.getElem?_cons_zero]; rfl) (by kernel_rfl) (by exact fun _ _ _ h => h) (by rfl) ?rp5 hF ?sp5
            case rp5 => (intro W hW; clear hW; go_simp; try with_reducible rfl)
            try simp only [Act.put, List.setIfInBounds_toArray, List.set_cons_zero, List.set_cons_succ]
            refine rg_take (i := 6) (v := ?vp6) (by simp only [List.getElem?_toArray, List.getElem?_cons_succ, List.getElem?_cons_zero]; rfl) (by kernel_rfl) (by exact fun _ _ _ h => h) (by rfl) ?rp6 hF ?sp6
            case rp6 => (intro W9 hW; refine exec_load_mid W9 32 (.tmp 84) ?_ g (o + k * 16) ?_ C _ hW.2.2 Tryz.underlying32 ?_ HCI.out; exact rfl; exact rfl; exact rfl)
            try simp only [Act.put, List.setIfInBounds_toArray, List.set_cons_zero, List.set_cons_succ]
            refine rg_one (i := 7) (oi := ?op7) ?ap7 ?bp7 ?cp7 ?dp7
            case ap7 => (simp only [List.getElem?_toArray, List.getElem?_cons_succ, List.getElem?_cons_zero]; rfl)
            case bp7 => kernel_rfl
            case cp7 => rfl
            intro K hK
            (refine wp_build1 73 _ rfl 32 _ 16 152 Tryz.underlying73 Tryz.infoMs (by omega) (by omega) (.agg C.toArray) rfl C rfl HCL.out ?_)
            refine rg_use hK (HFB.out) (fun hF => ?_)
            clear hK K
            try simp only [Act.put, List.setIfInBounds_toArray, List.set_cons_zero, List.set_cons_succ]
            refine rg_one (i := 8) (oi := ?op8) ?ap8 ?bp8 ?cp8 ?dp8
            case ap8 => (simp only [List.getElem?_toArray, List.getElem?_cons_succ, List.getElem?_cons_zero]; rfl)
            case bp8 => kernel_rfl
            case cp8 => rfl
            intro K hK
            (refine wp_app1 _ _ _ 73 rfl wc.heap.size 32 _ 16 152 Tryz.underlying73 Tryz.infoMs rfl (by omega) _ k (ansC (L.take k)) rfl ((HO.out.no2 (Kp.refl No wr).drew).alloc _) _ _ _ rfl (Bk.new' (by simp) rfl) HCL.out HC1.out (by omega) (by omega) (by simp; omega) ?_; intro g1 cap1 w1 hown1 hk1' hat1)
            refine rg_use hK (⟨(((HN.out.no (Kp.refl No wr).drew).alloc _).kp hk1' (fun e => own_ne HO.out HN.out (by decide) e)).cell 2, (((HC.out.no (Kp.refl No wr).drew).alloc _).kp hk1' (fun e => own_ne HO.out HC.out (by decide) e)).cell 2, HFC.out _ hk1'⟩) (fun hF => ?_)
            clear hK K
            try simp only [Act.put, List.setIfInBounds_toArray, List.set_cons_zero, List.set_cons_succ]
            refine rg_take (i := 9) (v := ?vp9) (by simp only [List.getElem?_toArray, List.getElem?_cons_succ, List.getElem?_cons_zero]; rfl) (by kernel_rfl) (by exact fun _ _ _ h => h) (by rfl) ?rp9 hF ?sp9
            case rp9 => (intro W hW; clear hW; go_simp; try with_reducible rfl)
            try simp only [Act.put, List.setIfInBounds_toArray, List.set_cons_zero, List.set_cons_succ]
            refine rg_one (i := 10) (oi := ?op10) ?ap10 ?bp10 ?cp10 ?dp10
            case ap10 => (simp only [List.getElem?_toArray, List.getElem?_cons_succ, List.getElem?_cons_zero]; rfl)
            case bp10 => kernel_rfl
            case cp10 => rfl
            intro K hK
            (have y0 := hF.1; have yf := (((HN.out.no (Kp.refl No wr).drew).alloc (.cells C.toArray 32)).kp hk1' (fun e => own_ne HO.out HN.out (by decide) e)).frozen 2; go_simp)
            refine hK _ _ (fun h => absurd rfl h) ?_
            clear hK K
            try simp only [Act.put, List.setIfInBounds_toArray, List.set_cons_zero, List.set_cons_succ]
            refine rg_done (by kernel_rfl) ?_
            have HN1 := Lib.hid (((HN.out.no (Kp.refl No wr).drew).alloc (.cells C.toArray 32)).kp hk1' (fun e => own_ne HO.out HN.out (by decide) e))
            have HC9 := Lib.hid (((HC.out.no (Kp.refl No wr).drew).alloc (.cells C.toArray 32)).kp hk1' (fun e => own_ne HO.out HC.out (by decide) e))
            have HK1 := Lib.hid (show Kp No wc w1 from kpB_own HB0.out ((HO.out.no2 (Kp.refl No wr).drew).alloc (.cells C.toArray 32)) (HK.out.drew.alloc _) hk1')
            have HO1 := Lib.hid hown1
            have hsz1 : (wc.heap.size + 1) < w1.heap.size := HN1.out.lt
            clear hown1 hk1' hat1
            go_wp2
            go_roundw
            case rel =>
              refine ⟨k + 1, _, by omega, by go_num, HN1.out.set_ 2 _, ?_, HC9.out.far (p := ⟨(wc.heap.size + 1), 2, none⟩) (by show wc.heap.size ≠ (wc.heap.size + 1); omega) _, HK1.out.set (.inr (by omega)) _ _⟩
              have h := HO1.out
              rw [HCE.out, ← ansC_snoc (L.take k) (ym, .slice Ay ym.stamp.length cy), ← HTK.out] at h
              exact own_kp h ((Kp.refl (One (wc.heap.size + 1)) w1).set (.inl rfl) 2 _) fun g e e2 => own_ne h HN1.out (by decide) (by rw [e, show g = (wc.heap.size + 1) from e2])
            case measure => simp [intOf]; omega
          · have hk1 : ¬ (k : Int) < (L.length : Int) := by omega
            obtain rfl : k = L.length := by omega
            rw [List.take_length] at HO
            clear hk hlt
            have hL8' : L.length ≤ 8 := hL8
            have z3 : wr.cell? ⟨(wc.heap.size + 1), 2, none⟩ = some (.slice A2 L.length c2) := HN.out.cell 2
            have HRA := Lib.hid (show wr.rangeAt (W.heap.size + 1 + 1) 0 CA from by rw [HCA.out]; exact range_of (HA.out.no HK.out))
            have HCAL := Lib.hid (show CA.length = 16 from by rw [HCA.out]; rfl)
            have HCA1 := Lib.hid (show ∀ u ∈ CA, u.oneCell' = true from by rw [HCA.out]; simp [mcells, Value.oneCell'])
            go_upto_region 13 with (first
              | (with_reducible refine wpList_load_mid rfl _ _ rfl (W.heap.size + 1 + 1) 0 rfl CA _ HRA.out HUH.out rfl hia.out ?_)
              | (with_reducible refine wpList_build1 rfl 73 _ rfl 32 _ 16 152 Tryz.underlying73 Tryz.infoMs (by omega) (by omega) (.agg CA.toArray) rfl CA rfl HCAL.out ?_)
              | (at_builtin; refine wpList_app1 _ rfl _ _ 73 rfl wc.heap.size 32 _ 16 152 Tryz.underlying73 Tryz.infoMs rfl (by omega) _ L.length (ansC L) rfl (HO.out.alloc _) _ _ _ rfl (Bk.new' (by simp) rfl) HCAL.out HCA1.out (by omega) (by omega) (by simp; omega) ?_; intro g1 cap1 w1 hown1 hk1' hat1; have hn1 := (HN.out.alloc (.cells CA.toArray 32)).kp hk1' (fun e => own_ne HO.out HN.out (by decide) e); have HN1 := Lib.hid hn1; have y0 : w1.cell? ⟨(wc.heap.size + 1), 2, none⟩ = some (.slice A2 L.length c2) := hn1.cell 2; have yf := hn1.frozen 2; clear hn1))
            have hk2 : Kp (One (wc.heap.size + 1)) w1 (w1.setCell ⟨(wc.heap.size + 1), 2, none⟩ (.slice (some ⟨g1, 0, none⟩) (L.length + 1) cap1)) := (Kp.refl (One (wc.heap.size + 1)) w1).set (.inl rfl) 2 _
            have HKa := Lib.hid (show Kp No wc w1 from kpB_own HB0.out (HO.out.alloc (.cells CA.toArray 32)) (HK.out.alloc _) hk1')
            have HK2 := Lib.hid (show Kp No wc (w1.setCell ⟨(wc.heap.size + 1), 2, none⟩ (.slice (some ⟨g1, 0, none⟩) (L.length + 1) cap1)) from HKa.out.set (.inr (by omega)) 2 _)
            have HN2 := Lib.hid (show Bk (w1.setCell ⟨(wc.heap.size + 1), 2, none⟩ (.slice (some ⟨g1, 0, none⟩) (L.length + 1) cap1)) (wc.heap.size + 1) 75 [.int .i64 x.boot, .int .i64 x.low, .slice (some ⟨g1, 0, none⟩) (L.length + 1) cap1] from HN1.out.set_ 2 _)
            have HO2 := Lib.hid (own_kp hown1 hk2 fun g e e2 => own_ne hown1 HN1.out (by decide) (by rw [e, show g = (wc.heap.size + 1) from e2]))
            generalize w1.setCell ⟨(wc.heap.size + 1), 2, none⟩ (.slice (some ⟨g1, 0, none⟩) (L.length + 1) cap1) = w2 at *
            obtain ⟨xn, hxn⟩ : ∃ xn : Dc, xn = ⟨x.boot, x.low, .slice (some ⟨g1, 0, none⟩) (L.length + 1) cap1, L ++ [(a, .slice Ba a.stamp.length da)]⟩ := ⟨_, rfl⟩
            have HXO := Lib.hid (show DcOk w2 xn from by
              rw [hxn]
              refine own_ans (B := wc.heap.size) ?_ ?_
              · have h := HO2.out
                rw [HCA.out, ← ansC_snoc L (a, .slice Ba a.stamp.length da)] at h
                rw [List.length_append]; exact h
              · intro y hy
                rcases List.mem_append.1 hy with h | h
                · exact (HL.out.2 y h).no HK2.out
                · have e := List.mem_singleton.1 h
                  rw [e]; exact (HSA.out.no HKC.out).no HK2.out)
            have HXN := Lib.hid (show dcC xn = [.int .i64 x.boot, .int .i64 x.low, .slice (some ⟨g1, 0, none⟩) (L.length + 1) cap1] from by rw [hxn]; rfl)
            have HXA := Lib.hid (show toCl xn = addS (toCl x) a from by rw [hxn]; unfold toCl addS; simp only [List.map_append, List.map_cons, List.map_nil, HLL.out])
            have pp := dput_any (.slice (some ⟨g5, o5, none⟩) D5.length c5) D5 j xn w2 (HR.out.no HK2.out) H85.out HXO.out hj8
            rw [HXN.out] at pp
            have z8 : w2.cell? ⟨b6, 0, none⟩ = some (.slice (some ⟨g5, o5, none⟩) D5.length c5) := (HB6.out.no HK2.out).cell 0
            have u1 : w2.cell? ⟨(W.heap.size + 1), 1, none⟩ = some (.int .i64 (j : Int)) := by have h := (HM.out.no HK2.out).cell 1; rw [← HJ.out]; exact h
            have v0 : w2.cell? ⟨(wc.heap.size + 1), 0, none⟩ = some (.int .i64 x.boot) := HN2.out.cell 0
            have v1 : w2.cell? ⟨(wc.heap.size + 1), 1, none⟩ = some (.int .i64 x.low) := HN2.out.cell 1
            have v2 : w2.cell? ⟨(wc.heap.size + 1), 2, none⟩ = some (.slice (some ⟨g1, 0, none⟩) (L.length + 1) cap1) := HN2.out.cell 2
            have HZ2 := Lib.hid (HRZ.out.no HK2.out)
            have HKW := Lib.hid (HKC.out.trans HK2.out)
            have HXX := Lib.hid hxn
            clear hD5 hk2 hxn hown1 hk1' hat1 HO2 HN2 HN1 z0 z3 y0 yf
            go_wp2_with fail
            refine pp.mono ?_
            rintro e w9 ⟨vp, rfl, hrp, k9⟩
            have hrp0 := hrp
            obtain ⟨⟨A9, c9, hvp, _⟩, _⟩ := hrp0
            rw [List.length_set] at hvp
            subst hvp
            have HFIN := Lib.hid (keepD_end (D := D) (m := m) (a := a) (b := true) (HKW.out.trans k9) (show W.heap.size ≤ (W.heap.size + 1 + 1 + 1) from by omega) (HZ2.out.no k9) hrp (by rw [List.length_set]; exact H85.out) (by
              rw [HYS.out]
              show (D5.set j xn).map toCl = _
              rw [List.map_set, HC5.out, HXA.out, HJ.out, Int.toNat_natCast, ← HC5.out, toCl_get D5 j hjD, ← HXE.out]) (by rw [HYS.out]))
            have y0 : w9.cell? ⟨(W.heap.size + 1 + 1 + 1), 0, none⟩ = some (.slice none 0 0) := (HZ2.out.no k9).cell 0
            have yf := (HZ2.out.no k9).frozen 0
            have x0 : (w9.setCell ⟨(W.heap.size + 1 + 1 + 1), 0, none⟩ (.slice A9 D5.length c9)).cell? ⟨(W.heap.size + 1 + 1 + 1), 0, none⟩ = some (.slice A9 D5.length c9) := ((HZ2.out.no k9).set_ 0 (.slice A9 D5.length c9)).cell 0
            clear pp hrp k9 z8 u1 v0 v1 v2
            go_wp2
            refine bodyPost_ret (v := .tuple #[.agg #[.slice A9 D5.length c9], .bool true]) (by simp [results, Tryz.results16, go_sem, x0]) rfl ?_
            exact HFIN.out
        · rw [decide_eq_true hf]
          clear u1
          have HNO := Lib.hid (keepS_no (st := D.map toCl) (m := m) (a := a) (fun h => hf ⟨h.2.2.2.1, h.2.2.2.2.1, h.2.2.2.2.2.1, h.2.2.2.2.2.2⟩))
          clear hf
          clear hD5
          have HFIN := Lib.hid (keepD_end (D := D) (m := m) (a := a) HKC.out (by omega) HRZ.out HR.out H85.out (by rw [HNO.out]; exact HC5.out) (by rw [HNO.out]))
          have z8 : wc.cell? ⟨b6, 0, none⟩ = some (.slice A5 D5.length c5) := HB6.out.cell 0
          have y0 : wc.cell? ⟨(W.heap.size + 1 + 1 + 1), 0, none⟩ = some (.slice none 0 0) := HRZ.out.cell 0
          have yf := HRZ.out.frozen 0
          have x0 : (wc.setCell ⟨(W.heap.size + 1 + 1 + 1), 0, none⟩ (.slice A5 D5.length c5)).cell? ⟨(W.heap.size + 1 + 1 + 1), 0, none⟩ = some (.slice A5 D5.length c5) := (HRZ.out.set_ 0 (.slice A5 D5.length c5)).cell 0
          go_wp2
          refine bodyPost_ret (v := .tuple #[.agg #[.slice A5 D5.length c5], .bool false]) (by simp [results, Tryz.results16, go_sem, x0]) rfl ?_
          exact HFIN.out
    · rw [decide_eq_true hv]
      have HNO := Lib.hid (keepS_no (st := D.map toCl) (m := m) (a := a) (fun h => hv ⟨HV1.out.symm.trans h.1, h.2.1, h.2.2.1⟩))
      clear hv
      clear hD5
      have HFIN := Lib.hid (keepD_end (D := D) (m := m) (a := a) HKC.out (by omega) HRZ.out HR.out H85.out (by rw [HNO.out]; exact HC5.out) (by rw [HNO.out]))
      have z8 : wc.cell? ⟨b6, 0, none⟩ = some (.slice A5 D5.length c5) := HB6.out.cell 0
      have y0 : wc.cell? ⟨(W.heap.size + 1 + 1 + 1), 0, none⟩ = some (.slice none 0 0) := HRZ.out.cell 0
      have yf := HRZ.out.frozen 0
      have x0 : (wc.setCell ⟨(W.heap.size + 1 + 1 + 1), 0, none⟩ (.slice A5 D5.length c5)).cell? ⟨(W.heap.size + 1 + 1 + 1), 0, none⟩ = some (.slice A5 D5.length c5) := (HRZ.out.set_ 0 (.slice A5 D5.length c5)).cell 0
      go_wp2
      refine bodyPost_ret (v := .tuple #[.agg #[.slice A5 D5.length c5], .bool false]) (by simp [results, Tryz.results16, go_sem, x0]) rfl ?_
      exact HFIN.out
end Go.Proofs.YtaipbikbapjmjaaGreat

/- The law's calls that came in: lists of a number and two messages. No condition beyond what each theorem states. -/
namespace Go.Proofs.YtaipbikbapjmjaaGreat
open Go Go.ChangeShapes Go.WideShapes Go.ChangeAt Go.RowKit Go.Deep Go.PlainAid

/-- what is known of a message that came in -/
def MsgOk (w : World) (m : Msg) (A : Option Addr) (c : Nat) : Prop := ArgInts w (.slice A m.stamp.length c) m.stamp ∧ Rng m ∧ Short maxLen m ∧ m.stamp.length ≤ 17592186043904 ∧ m.path.length ≤ 140737488355328
theorem MsgOk.no {w w' : World} {m : Msg} {A : Option Addr} {c : Nat} (h : MsgOk w m A c) (hk : Kp No w w') : MsgOk w' m A c := ⟨h.1.no hk, h.2⟩
structure Opx where
  kind : Int
  m : Msg
  a : Msg
  A : Option Addr
  c : Nat
  A' : Option Addr
  c' : Nat
def opC (x : Opx) : List Value := .int .i64 x.kind :: (mcells x.m (.slice x.A x.m.stamp.length x.c) ++ mcells x.a (.slice x.A' x.a.stamp.length x.c'))
def OpOk (w : World) (x : Opx) : Prop := MsgOk w x.m x.A x.c ∧ MsgOk w x.a x.A' x.c'
def ArgOps (w : World) (v : Value) (l : List Opx) : Prop := ∃ A c, v = .slice A l.length c ∧ l.length ≤ c ∧ (l ≠ [] → ∃ g o, A = some ⟨g, o, none⟩ ∧ ∀ k (h : k < l.length), OpOk w l[k] ∧ w.rangeAt g (o + k * 33) (opC l[k]))
section
variable {H : Type} {enc : TypeId × Value → H} {P : Program}
theorem list16 {α : Type} {cs : List α} (h : cs.length = 16) : ∃ a0 a1 a2 a3 a4 a5 a6 a7 a8 a9 a10 a11 a12 a13 a14 a15, cs = [a0, a1, a2, a3, a4, a5, a6, a7, a8, a9, a10, a11, a12, a13, a14, a15] :=
  match cs, h with
  | [a0, a1, a2, a3, a4, a5, a6, a7, a8, a9, a10, a11, a12, a13, a14, a15], _ => ⟨a0, a1, a2, a3, a4, a5, a6, a7, a8, a9, a10, a11, a12, a13, a14, a15, rfl⟩
/-- a struct of one-cell fields, by its cells, opened -/
theorem open_aggC {w : World} {base : Nat} {spare : Nat → Bool} {held : Bool} {n0 : Nat} {t : TypeId} {fs : Array Field} {cs : List Value} {y : DataW H × List MemPlace} (hs : P.underlying t = some (.struct fs)) (hone : oneCellFields P fs = true) (hl : cs.length = fs.size)
    (hf : DataW.trod enc P w base spare held n0 t cs = some y) :
    ∃ (n : Nat) (xs : List (DataW H × List MemPlace)), y.1 = .agg (xs.map (·.1)) ∧ ∀ (j : Nat) (f : Field), fs[j]? = some f → ∃ c z, cs[j]? = some c ∧ (xs.map (·.1))[j]? = some z.1 ∧ DataW.trod enc P w base spare held n f.type [c] = some z := by
  obtain ⟨xs, n, _, hx, hl2, hlen, hg⟩ := DataW.trod_struct hs hf
  refine ⟨n, xs, by rw [hx], fun j f hj => ?_⟩
  obtain ⟨o, k⟩ := hone_of hone j f hj
  have hjl : j < fs.size := (Array.getElem?_eq_some_iff.1 hj).1
  have hg1 := hg j f hj
  rw [o, k] at hg1
  have hcl : j < cs.length := by omega
  have e1 : (cs.drop j).take 1 = [cs[j]'(by omega)] := by
    rw [List.drop_eq_getElem_cons hcl, List.take_succ_cons, List.take_zero]
  rw [e1] at hg1
  have hys : xs[j]? = some (xs[j]'(by omega)) := List.getElem?_eq_getElem (by omega)
  exact ⟨cs[j]'(by omega), xs[j]'(by omega), List.getElem?_eq_getElem (by omega), by rw [List.getElem?_map, hys]; rfl, hg1.trans hys⟩
end
set_option maxRecDepth 100000 in
set_option maxHeartbeats 1000000 in
theorem open_msgC {H : Type} {enc : TypeId × Value → H} {W : World} {n : Nat} {cs : List Value} {y : DataW H × List MemPlace} (hl : cs.length = 16) (hf : DataW.trod enc Tryz.prog W 0 (fun _ => true) true n 32 cs = some y) (hz : ∀ k ∈ y.1.weights Tryz.prog 32, k ≤ reachBytes) :
    ∃ (m : Msg) (A : Option Addr) (c : Nat), cs = mcells m (.slice A m.stamp.length c) ∧ MsgOk W m A c := by
  obtain ⟨n, xs, hy, hg⟩ := open_aggC Tryz.underlying32 (by kernel_rfl) hl hf
  rw [hy] at hz
  have hw : ∀ (j : Nat) t y, ([26, 3, 3, 3, 3, 3, 27, 9, 28, 3, 3, 4, 29, 30, 3, 3] : List TypeId)[j]? = some t → (xs.map (·.1))[j]? = some y → ∀ n ∈ y.weights Tryz.prog t, n ≤ reachBytes := fun j t y h1 h2 n hn => hz n (by
    have := DataW.weights_mem_each h1 h2 n hn
    simpa [DataW.weights, Tryz.underlying32] using this)
  obtain ⟨c0, y0, e0, x0, t0⟩ := hg 0 _ rfl
  obtain ⟨c1, y1, e1, x1, t1⟩ := hg 1 _ rfl
  obtain ⟨c2, y2, e2, x2, t2⟩ := hg 2 _ rfl
  obtain ⟨c3, y3, e3, x3, t3⟩ := hg 3 _ rfl
  obtain ⟨c4, y4, e4, x4, t4⟩ := hg 4 _ rfl
  obtain ⟨c5, y5, e5, x5, t5⟩ := hg 5 _ rfl
  obtain ⟨c6, y6, e6, x6, t6⟩ := hg 6 _ rfl
  obtain ⟨c7, y7, e7, x7, t7⟩ := hg 7 _ rfl
  obtain ⟨c8, y8, e8, x8, t8⟩ := hg 8 _ rfl
  obtain ⟨c9, y9, e9, x9, t9⟩ := hg 9 _ rfl
  obtain ⟨c10, y10, e10, x10, t10⟩ := hg 10 _ rfl
  obtain ⟨c11, y11, e11, x11, t11⟩ := hg 11 _ rfl
  obtain ⟨c12, y12, e12, x12, t12⟩ := hg 12 _ rfl
  obtain ⟨c13, y13, e13, x13, t13⟩ := hg 13 _ rfl
  obtain ⟨c14, y14, e14, x14, t14⟩ := hg 14 _ rfl
  obtain ⟨c15, y15, e15, x15, t15⟩ := hg 15 _ rfl
  clear hg hz hf
  obtain ⟨a0, a1, a2, a3, a4, a5, a6, a7, a8, a9, a10, a11, a12, a13, a14, a15, rfl⟩ := list16 hl
  simp only [List.getElem?_cons_zero, List.getElem?_cons_succ, Option.some.injEq] at e0 e1 e2 e3 e4 e5 e6 e7 e8 e9 e10 e11 e12 e13 e14 e15
  subst e0 e1 e2 e3 e4 e5 e6 e7 e8 e9 e10 e11 e12 e13 e14 e15
  obtain ⟨n0, h0, _, w0⟩ := DataW.trod_int Tryz.underlying26 t0
  obtain ⟨n1, h1, _, w1⟩ := DataW.trod_int Tryz.underlying3 t1
  obtain ⟨n2, h2, _, w2⟩ := DataW.trod_int Tryz.underlying3 t2
  obtain ⟨n3, h3, _, w3⟩ := DataW.trod_int Tryz.underlying3 t3
  obtain ⟨n4, h4, _, w4⟩ := DataW.trod_int Tryz.underlying3 t4
  obtain ⟨n5, h5, _, w5⟩ := DataW.trod_int Tryz.underlying3 t5
  obtain ⟨n6, h6, _, w6⟩ := DataW.trod_int Tryz.underlying27 t6
  obtain ⟨s, h7, q7, w7⟩ := DataW.trod_string Tryz.underlying9 t7
  have hpl : s.data.toList.length ≤ reachBytes := hw 7 _ _ rfl x7 _ (by rw [(Prod.mk.inj q7).1]; simp [DataW.weights])
  clear q7
  unfold reachBytes at hpl
  obtain ⟨n8, h8, _, w8⟩ := DataW.trod_int Tryz.underlying28 t8
  obtain ⟨n9, h9, _, w9⟩ := DataW.trod_int Tryz.underlying3 t9
  obtain ⟨n10, h10, _, w10⟩ := DataW.trod_int Tryz.underlying3 t10
  obtain ⟨fr, h11, _⟩ := DataW.trod_bool Tryz.underlying4 t11
  obtain ⟨n12, h12, _, w12⟩ := DataW.trod_int Tryz.underlying29 t12
  obtain ⟨L, hL, hLl, hLr⟩ := open_intsF Tryz.underlying30 Tryz.underlying3 (by kernel_rfl) (by kernel_rfl) t13 (hw 13 _ _ rfl x13)
  obtain ⟨n14, h14, _, w14⟩ := DataW.trod_int Tryz.underlying3 t14
  obtain ⟨n15, h15, _, w15⟩ := DataW.trod_int Tryz.underlying3 t15
  simp only [List.cons.injEq, and_true] at h0 h1 h2 h3 h4 h5 h6 h7 h8 h9 h10 h11 h12 h14 h15
  subst h0 h1 h2 h3 h4 h5 h6 h7 h8 h9 h10 h11 h12 h14 h15
  obtain ⟨A, c, rfl, hc, hcs⟩ := hL
  refine ⟨{ kind := n0, from_ := n1, dest := n2, boot := n3, seq := n4, low := n5, verb := n6, path := s.data.toList, mode := n8, term := n9, id := n10, fresh := fr, code := n12, stamp := L, origin := n14, number := n15 }, A, c, rfl, ⟨A, c, rfl, hc, hcs⟩, ⟨?_, fun x hx => by have := hLr x hx; omega⟩, ⟨by show s.data.toList.length ≤ maxLen; rw [Array.length_toList]; exact w7, by show L.length ≤ maxLen; unfold maxLen; omega⟩, hLl, by show s.data.toList.length ≤ _; omega⟩
  intro x hx
  simp only [List.mem_cons, List.not_mem_nil, or_false] at hx
  have b0 := bounds_i64 w0
  have b1 := bounds_i64 w1
  have b2 := bounds_i64 w2
  have b3 := bounds_i64 w3
  have b4 := bounds_i64 w4
  have b5 := bounds_i64 w5
  have b6 := bounds_i64 w6
  have b8 := bounds_i64 w8
  have b9 := bounds_i64 w9
  have b10 := bounds_i64 w10
  have b12 := bounds_i64 w12
  have b14 := bounds_i64 w14
  have b15 := bounds_i64 w15
  rcases hx with rfl | rfl | rfl | rfl | rfl | rfl | rfl | rfl | rfl | rfl | rfl | rfl | rfl <;> omega
theorem weights_all {H : Type} {P : Program} {e : TypeId} : ∀ {l : List (DataW H)} {d : DataW H}, d ∈ l → ∀ n ∈ d.weights P e, n ∈ DataW.weightsAll P e l
  | [], _, h, _, _ => by cases h
  | x :: l, d, h, n, hn => by
    rw [DataW.weightsAll]
    rcases List.mem_cons.1 h with rfl | h
    · exact List.mem_append.2 (.inl hn)
    · exact List.mem_append.2 (.inr (weights_all h n hn))
set_option maxRecDepth 100000 in
set_option maxHeartbeats 1000000 in
theorem open_ops {H : Type} {enc : TypeId × Value → H} {W : World} {b0 : Nat} {v : Value} {d : DataW H} {ps : List MemPlace} (hv : Value.okWide Tryz.prog W .any b0 39 v) (h : DataW.Trod enc Tryz.prog W 0 (fun _ => true) true 39 v d ps)
    (hz : ∀ n ∈ d.weights Tryz.prog 39, n ≤ reachBytes) : ∃ l : List Opx, ArgOps W v l ∧ l.length ≤ 17592186043904 := by
  obtain ⟨a, len, cap, rfl⟩ := okWide_slice Tryz.underlying39 hv
  obtain ⟨fuel, hf⟩ := h
  rcases open_slice Tryz.underlying39 hf with ⟨hcs, hx⟩ | ⟨a', len', cap', m, n, D, Pl, hcs, _, hl, hm, hmm, hx, hr⟩
  · simp [Value.cells] at hcs
    obtain ⟨rfl, rfl, rfl⟩ := hcs
    exact ⟨[], ⟨Option.none, 0, rfl, Nat.le_refl _, fun h => absurd rfl h⟩, by simp⟩
  · simp [Value.cells] at hcs
    obtain ⟨rfl, rfl, rfl⟩ := hcs
    simp at hmm
    subst hmm
    injection hx with hd _
    have hce : Tryz.prog.cellsOf 45 = 33 := by kernel_rfl
    have hbe : Tryz.prog.bytesOf 45 = 312 := by kernel_rfl
    have hzz : ∀ i, i < len → ∀ n ∈ (D i).weights Tryz.prog 45, n ≤ reachBytes := fun i hi n hn => hz n (by
      rw [hd]
      simp only [DataW.weights, Tryz.underlying39]
      refine List.mem_cons_of_mem _ (List.mem_append.2 (.inl (weights_all (d := D i) (List.mem_map.2 ⟨i, List.mem_range.2 hi, rfl⟩) n hn)))
      )
    have hone : ∀ i, i < len → ∃ o : Opx, OpOk W o ∧ ∀ j v, (opC o)[j]? = some v → W.cell? ((a'.add (i * 33)).add j) = some v := fun i hi => by
      obtain ⟨cs', hcs', htr⟩ := hr i (by omega)
      rw [hce] at hcs'
      obtain ⟨xs, n', _, hxx, hcl, hxl, hg⟩ := DataW.trod_struct Tryz.underlying45 htr
      simp only [Prod.mk.injEq] at hxx
      have hw := hzz i hi
      rw [hxx.1] at hw
      have hw2 : ∀ (j : Nat) t y, ([3, 32, 32] : List TypeId)[j]? = some t → (xs.map (·.1))[j]? = some y → ∀ n ∈ y.weights Tryz.prog t, n ≤ reachBytes := fun j t y h1 h2 n hn => hw n (by
        have := DataW.weights_mem_each h1 h2 n hn
        simpa [DataW.weights, Tryz.underlying45] using this)
      unfold World.cells? at hcs'
      rw [if_pos (Nat.zero_le _)] at hcs'
      obtain ⟨hl4, hc4⟩ := mapM_some hcs'
      simp only [List.length_range] at hl4 hc4
      have c0 : Tryz.prog.cellsOf 3 = 1 := by kernel_rfl
      have c1 : Tryz.prog.cellsOf 32 = 16 := by kernel_rfl
      have g0 : DataW.trod enc Tryz.prog W 0 (fun _ => true) true n' 3 ((cs'.drop 0).take (Tryz.prog.cellsOf 3)) = xs[0]? := hg 0 _ rfl
      have g1 : DataW.trod enc Tryz.prog W 0 (fun _ => true) true n' 32 ((cs'.drop 1).take (Tryz.prog.cellsOf 32)) = xs[1]? := hg 1 _ rfl
      have g2 : DataW.trod enc Tryz.prog W 0 (fun _ => true) true n' 32 ((cs'.drop 17).take (Tryz.prog.cellsOf 32)) = xs[2]? := hg 2 _ rfl
      rw [c0] at g0
      rw [c1] at g1 g2
      match xs, hxl with
      | [y0, y1, y2], _ =>
        simp only [List.getElem?_cons_zero, List.getElem?_cons_succ] at g0 g1 g2
        obtain ⟨m1, A1, q1, e1, k1⟩ := open_msgC (by rw [List.length_take, List.length_drop, hl4]; rfl) g1 (hw2 1 _ _ rfl rfl)
        obtain ⟨m2, A2, q2, e2, k2⟩ := open_msgC (by rw [List.length_take, List.length_drop, hl4]; rfl) g2 (hw2 2 _ _ rfl rfl)
        obtain ⟨n0, e0, _, w0⟩ := DataW.trod_int Tryz.underlying3 g0
        refine ⟨⟨n0, m1, m2, A1, q1, A2, q2⟩, ⟨k1, k2⟩, fun j v hj => ?_⟩
        have hcs : cs' = opC ⟨n0, m1, m2, A1, q1, A2, q2⟩ := by
          have h1 : cs' = cs'.take 1 ++ ((cs'.drop 1).take 16 ++ (cs'.drop 17).take 16) := by
            have h3 : (cs'.drop 17).take 16 = cs'.drop 17 := List.take_of_length_le (by rw [List.length_drop, hl4]; omega)
            rw [h3, show cs'.drop 17 = (cs'.drop 1).drop 16 from by rw [List.drop_drop], List.take_append_drop, List.take_append_drop]
          have h0 : cs'.take 1 = [.int .i64 n0] := by
            have : (cs'.drop 0).take 1 = _ := e0
            rwa [List.drop_zero] at this
          rw [h1, h0]
          show _ :: (_ ++ _) = _
          rw [e1, e2]
          rfl
        rw [← hcs] at hj
        have hj4 : j < 33 := by have := (List.getElem?_eq_some_iff.1 hj).1; omega
        have := hc4 j hj4
        rw [List.getElem_range] at this
        rw [this]
        exact hj
    obtain ⟨f, hf'⟩ : ∃ f : Nat → Opx, ∀ i, i < len → OpOk W (f i) ∧ ∀ j v, (opC (f i))[j]? = some v → W.cell? ((a'.add (i * 33)).add j) = some v :=
      ⟨fun i => if h : i < len then (hone i h).choose else ⟨0, {}, {}, none, 0, none, 0⟩, fun i hi => by
        simp only [dif_pos hi]
        exact (hone i hi).choose_spec⟩
    refine ⟨(List.range len).map f, ⟨some a', m, by simp, by simp; omega, fun hne => ?_⟩, ?_⟩
    · have hlen : 0 < len := by
        rcases Nat.eq_zero_or_pos len with h0 | h0
        · subst h0; simp at hne
        · exact h0
      have h00 := (hf' 0 hlen).2 0 (.int .i64 (f 0).kind) rfl
      rw [add_add, Nat.zero_mul] at h00
      obtain ⟨b, o, rfl⟩ := addr_none h00
      refine ⟨b, o, rfl, fun k hk => ⟨by simpa using (hf' k (by simpa using hk)).1, fun j v hj => ?_⟩⟩
      have hk' : k < len := by simpa using hk
      simp only [List.getElem_map, List.getElem_range] at hj
      have := (hf' k hk').2 j v hj
      rw [add_add, Addr.add_mid] at this
      rw [Nat.add_assoc]; exact this
    · simp only [List.length_map, List.length_range]
      have := hz ((len + (m - len)) * Tryz.prog.bytesOf 45) (by rw [hd]; simp [DataW.weights, Tryz.underlying39])
      rw [hbe] at this
      unfold reachBytes at this
      omega
end Go.Proofs.YtaipbikbapjmjaaGreat

/- Words for RepliesPlays: bounds of the document's clients, and where the law stands. No condition beyond what each theorem states. -/
namespace Go.Proofs.YtaipbikbapjmjaaGreat
open Go Go.RowKit Go.PlainAid

def LowC (cs : List Cl) : Prop := ∀ k, (cs.getD k {}).low ≤ 1099511627776
theorem lows_of {ps : List Pc} {D : List Dc} (h : St ps (D.map toCl)) (hl : LowC (D.map toCl)) : ∀ x ∈ D, 1 ≤ x.low ∧ x.low ≤ 1099511627776 := by
  intro x hx
  obtain ⟨k, hk, rfl⟩ := List.getElem_of_mem hx
  have e := toCl_get D k hk
  have h1 := (h.rc k).one
  have h2 := hl k
  rw [e] at h1 h2
  exact ⟨h1, h2⟩
theorem lens_of {ps : List Pc} {D : List Dc} (h : St ps (D.map toCl)) : ∀ x ∈ D, x.L.length ≤ 8 := by
  intro x hx
  obtain ⟨k, hk, rfl⟩ := List.getElem_of_mem hx
  have hc := (h.rc k).count
  have hl := (h.rc k).len
  rw [toCl_get D k hk] at hc
  have h2 : (toCl D[k]).ans.length = D[k].L.length := by simp [toCl]
  have h3 := List.length_filter_le (fun s : Sl => decide (0 < s.seq)) (ps.getD k {}).slots
  omega
theorem LowC.set {cs : List Cl} (h : LowC cs) (hl : cs.length = 8) {i : Nat} (hi : i < 8) {c : Cl} (hc : c.low ≤ 1099511627776) : LowC (cs.set i c) := fun k => by
  rw [getD_set _ _ _ _ _ (by omega)]
  split
  · exact hc
  · exact h k
theorem LowC.seen {cs : List Cl} (h : LowC cs) (hl : cs.length = 8) (m : Msg) : LowC (seenS cs m).1 := by
  unfold seenS
  by_cases ha : m.kind = 1 ∧ mayS vpP m
  · rw [if_pos ha]
    obtain ⟨h1, _, h3, _, h5⟩ := may_ask ha.2 ha.1
    unfold nodeI at h1
    unfold cntI at h3
    cases hh : heardS (cs.getD m.from_.toNat {}) m with
    | none => exact h
    | some c =>
      have hc : c.low ≤ 1099511627776 := by
        have h0 := h m.from_.toNat
        unfold heardS at hh
        split at hh
        · cases hh
        · split at hh
          · injection hh with hh; rw [← hh]; show max 1 m.low ≤ 1099511627776; omega
          · injection hh with hh; rw [← hh]; show max (cs.getD m.from_.toNat {}).low m.low ≤ 1099511627776; omega
      have hs : LowC (cs.set m.from_.toNat c) := h.set hl (by omega) hc
      simp only
      split
      · exact hs
      · split
        · exact hs
        · exact hs
  · rw [if_neg ha]; exact h
theorem LowC.keep {cs : List Cl} (h : LowC cs) (hl : cs.length = 8) (m a : Msg) : LowC (keepS cs m a).1 := by
  have hs := h.seen hl m
  have h8 := seen_len hl m
  unfold keepS
  by_cases hc : (seenS cs m).2.1 = 3 ∧ fitsS m a
  · rw [if_pos hc]
    obtain ⟨k1, k2, _⟩ := seen_new hc.1
    obtain ⟨g1, _⟩ := may_ask k2 k1
    unfold nodeI at g1
    exact hs.set h8 (by omega) (hs m.from_.toNat)
  · rw [if_neg hc]; exact hs
def ShC (cs : List Cl) : Prop := ∀ k, ∀ a ∈ (cs.getD k {}).ans, a.stamp.length ≤ 17592186044416
theorem heard_sub {c c' : Cl} {m : Msg} (h : heardS c m = some c') : ∀ a ∈ c'.ans, a ∈ c.ans := by
  unfold heardS at h
  split at h
  · cases h
  · split at h
    · injection h with h; rw [← h]; intro a ha; cases ha
    · injection h with h; rw [← h]; intro a ha; exact (List.mem_filter.1 ha).1
theorem ShC.set {cs : List Cl} (h : ShC cs) (hl : cs.length = 8) {i : Nat} (hi : i < 8) {c : Cl} (hc : ∀ a ∈ c.ans, a.stamp.length ≤ 17592186044416) : ShC (cs.set i c) := fun k => by
  rw [getD_set _ _ _ _ _ (by omega)]
  split
  · exact hc
  · exact h k
theorem ShC.seen {cs : List Cl} (h : ShC cs) (hl : cs.length = 8) (m : Msg) : ShC (seenS cs m).1 ∧ (seenS cs m).2.2.stamp.length ≤ 17592186044416 := by
  unfold seenS
  by_cases ha : m.kind = 1 ∧ mayS vpP m
  · rw [if_pos ha]
    obtain ⟨h1, _⟩ := may_ask ha.2 ha.1
    unfold nodeI at h1
    cases hh : heardS (cs.getD m.from_.toNat {}) m with
    | none => exact ⟨h, by show 0 ≤ _; omega⟩
    | some c =>
      have hc : ∀ a ∈ c.ans, a.stamp.length ≤ 17592186044416 := fun a ha => h _ a (heard_sub hh a ha)
      have hs : ShC (cs.set m.from_.toNat c) := h.set hl (by omega) hc
      simp only
      split
      · exact ⟨hs, by show 0 ≤ _; omega⟩
      · cases hf : findS c m.seq with
        | none => exact ⟨hs, by show 0 ≤ _; omega⟩
        | some a => exact ⟨hs, hc a (by unfold findS at hf; exact List.mem_of_find?_eq_some hf)⟩
  · rw [if_neg ha]; exact ⟨h, by show 0 ≤ _; omega⟩
theorem ShC.keep {cs : List Cl} (h : ShC cs) (hl : cs.length = 8) (m a : Msg) (ha : a.stamp.length ≤ 17592186044416) : ShC (keepS cs m a).1 := by
  have hs := (h.seen hl m).1
  have h8 := seen_len hl m
  unfold keepS
  by_cases hc : (seenS cs m).2.1 = 3 ∧ fitsS m a
  · rw [if_pos hc]
    obtain ⟨k1, k2, _⟩ := seen_new hc.1
    obtain ⟨g1, _⟩ := may_ask k2 k1
    unfold nodeI at g1
    refine hs.set h8 (by omega) fun x hx => ?_
    simp only [addS, List.mem_append, List.mem_singleton] at hx
    rcases hx with hx | rfl
    · exact hs _ x hx
    · exact ha
  · rw [if_neg hc]; exact hs
/-- where the law stands -/
def PlAt (W : World) (b bm : Nat) (w : World) : Prop := ∃ (ps : List Pc) (D : List Dc) (A : Option Addr) (c : Nat), RpB w b (fun _ => True) ps ∧ St ps (D.map toCl) ∧ LowC (D.map toCl) ∧ ShC (D.map toCl) ∧ D.length = 8 ∧ Bk w bm 42 [.slice A D.length c] ∧ RefR w (.slice A D.length c) D ∧ Kp No W w
theorem low_init : LowC (List.replicate 8 {}) := fun k => by
  rw [List.getD_eq_getElem?_getD, List.getElem?_replicate]
  split
  · show (1 : Int) ≤ 1099511627776; decide
  · show (1 : Int) ≤ 1099511627776; decide
theorem sh_init : ShC (List.replicate 8 {}) := fun k => by
  rw [List.getD_eq_getElem?_getD, List.getElem?_replicate]
  split
  · intro a ha; cases ha
  · intro a ha; cases ha
theorem PlAt.no {W w w' : World} {b bm : Nat} (h : PlAt W b bm w) (hk : Kp No w w') : PlAt W b bm w' := by
  obtain ⟨ps, D, A, c, h1, h2, h3, h4, h5, h6, h7, h8⟩ := h
  exact ⟨ps, D, A, c, h1.no hk, h2, h3, h4, h5, h6.no hk, h7.no hk, h8.trans hk⟩
theorem PlAt.kp {W w : World} {b bm : Nat} (h : PlAt W b bm w) : Kp No W w := by
  obtain ⟨_, _, _, _, _, _, _, _, _, _, _, h8⟩ := h; exact h8
theorem PlAt.init {W w w' : World} {b : Nat} {v : Value} (h0 : RpB w b (fun _ => True) (List.replicate 8 {})) (h1 : RefR w v (List.replicate 8 d0)) (hk : Kp No W w) (e : w' = w.alloc (.cells #[v] 42)) : PlAt W b w.heap.size w' := by
  subst e
  obtain ⟨⟨A, c, rfl, _⟩, _⟩ := id h1
  have em : (List.replicate 8 d0).map toCl = List.replicate 8 {} := by rw [List.map_replicate]; rfl
  exact ⟨_, _, A, c, h0.no ((Kp.refl No w).alloc _), by rw [em]; exact St.init, by rw [em]; exact low_init, by rw [em]; exact sh_init, rfl, Bk.new' rfl rfl, h1.no ((Kp.refl No w).alloc _), hk.alloc _⟩
theorem op_info (x : Opx) : (Tryz.prog.info? 45).map (·.size) = some (opC x).toArray.size := by kernel_rfl
theorem op_one (x : Opx) : (opC x).toArray.all (·.oneCell') = true := by simp [opC, mcells, Value.oneCell']
theorem op_store (w : World) (C : List Value) (hc : C.length = 33) : Bk ((w.alloc (.cells #[.int .i64 0, .int .i64 0, .int .i64 0, .int .i64 0, .int .i64 0, .int .i64 0, .int .i64 0, .int .i64 0, .string ⟨#[]⟩, .int .i64 0, .int .i64 0, .int .i64 0, .bool false, .int .i64 0, .slice none 0 0, .int .i64 0, .int .i64 0, .int .i64 0, .int .i64 0, .int .i64 0, .int .i64 0, .int .i64 0, .int .i64 0, .int .i64 0, .string ⟨#[]⟩, .int .i64 0, .int .i64 0, .int .i64 0, .bool false, .int .i64 0, .slice none 0 0, .int .i64 0, .int .i64 0] 45)).setCells w.heap.size 0 C) w.heap.size 45 C ∧ Kp No w ((w.alloc (.cells #[.int .i64 0, .int .i64 0, .int .i64 0, .int .i64 0, .int .i64 0, .int .i64 0, .int .i64 0, .int .i64 0, .string ⟨#[]⟩, .int .i64 0, .int .i64 0, .int .i64 0, .bool false, .int .i64 0, .slice none 0 0, .int .i64 0, .int .i64 0, .int .i64 0, .int .i64 0, .int .i64 0, .int .i64 0, .int .i64 0, .int .i64 0, .int .i64 0, .string ⟨#[]⟩, .int .i64 0, .int .i64 0, .int .i64 0, .bool false, .int .i64 0, .slice none 0 0, .int .i64 0, .int .i64 0] 45)).setCells w.heap.size 0 C) := by
  refine ⟨?_, Kp.sets _ 0 ((Kp.refl No w).alloc _) (.inr (Nat.le_refl _))⟩
  have h := Bk.sets C 0 (show Bk (w.alloc (.cells #[.int .i64 0, .int .i64 0, .int .i64 0, .int .i64 0, .int .i64 0, .int .i64 0, .int .i64 0, .int .i64 0, .string ⟨#[]⟩, .int .i64 0, .int .i64 0, .int .i64 0, .bool false, .int .i64 0, .slice none 0 0, .int .i64 0, .int .i64 0, .int .i64 0, .int .i64 0, .int .i64 0, .int .i64 0, .int .i64 0, .int .i64 0, .int .i64 0, .string ⟨#[]⟩, .int .i64 0, .int .i64 0, .int .i64 0, .bool false, .int .i64 0, .slice none 0 0, .int .i64 0, .int .i64 0] 45)) w.heap.size 45 (#[.int .i64 0, .int .i64 0, .int .i64 0, .int .i64 0, .int .i64 0, .int .i64 0, .int .i64 0, .int .i64 0, .string ⟨#[]⟩, .int .i64 0, .int .i64 0, .int .i64 0, .bool false, .int .i64 0, .slice none 0 0, .int .i64 0, .int .i64 0, .int .i64 0, .int .i64 0, .int .i64 0, .int .i64 0, .int .i64 0, .int .i64 0, .int .i64 0, .string ⟨#[]⟩, .int .i64 0, .int .i64 0, .int .i64 0, .bool false, .int .i64 0, .slice none 0 0, .int .i64 0, .int .i64 0] : Array Value).toList from Bk.new' rfl rfl) (by rw [hc]; exact Nat.le_refl 33)
  rw [List.take_zero, List.nil_append, List.drop_of_length_le (by rw [hc]; decide), List.append_nil] at h
  exact h
theorem op_there (w : World) (n : Nat) (hn : n = 33) : (w.alloc (.cells #[.int .i64 0, .int .i64 0, .int .i64 0, .int .i64 0, .int .i64 0, .int .i64 0, .int .i64 0, .int .i64 0, .string ⟨#[]⟩, .int .i64 0, .int .i64 0, .int .i64 0, .bool false, .int .i64 0, .slice none 0 0, .int .i64 0, .int .i64 0, .int .i64 0, .int .i64 0, .int .i64 0, .int .i64 0, .int .i64 0, .int .i64 0, .int .i64 0, .string ⟨#[]⟩, .int .i64 0, .int .i64 0, .int .i64 0, .bool false, .int .i64 0, .slice none 0 0, .int .i64 0, .int .i64 0] 45)).there w.heap.size 0 n :=
  (show Bk (w.alloc (.cells #[.int .i64 0, .int .i64 0, .int .i64 0, .int .i64 0, .int .i64 0, .int .i64 0, .int .i64 0, .int .i64 0, .string ⟨#[]⟩, .int .i64 0, .int .i64 0, .int .i64 0, .bool false, .int .i64 0, .slice none 0 0, .int .i64 0, .int .i64 0, .int .i64 0, .int .i64 0, .int .i64 0, .int .i64 0, .int .i64 0, .int .i64 0, .int .i64 0, .string ⟨#[]⟩, .int .i64 0, .int .i64 0, .int .i64 0, .bool false, .int .i64 0, .slice none 0 0, .int .i64 0, .int .i64 0] 45)) w.heap.size 45 (#[.int .i64 0, .int .i64 0, .int .i64 0, .int .i64 0, .int .i64 0, .int .i64 0, .int .i64 0, .int .i64 0, .string ⟨#[]⟩, .int .i64 0, .int .i64 0, .int .i64 0, .bool false, .int .i64 0, .slice none 0 0, .int .i64 0, .int .i64 0, .int .i64 0, .int .i64 0, .int .i64 0, .int .i64 0, .int .i64 0, .int .i64 0, .int .i64 0, .string ⟨#[]⟩, .int .i64 0, .int .i64 0, .int .i64 0, .bool false, .int .i64 0, .slice none 0 0, .int .i64 0, .int .i64 0] : Array Value).toList from Bk.new' rfl rfl).there 0 _ (by rw [hn]; decide)
theorem op_m (x : Opx) : ∀ j v, (mcells x.m (.slice x.A x.m.stamp.length x.c))[j]? = some v → (opC x)[1 + j]? = some v := fun j v h => by
  have hj := (List.getElem?_eq_some_iff.1 h).1
  unfold opC
  rw [show 1 + j = j + 1 from Nat.add_comm 1 j, List.getElem?_cons_succ, List.getElem?_append_left hj]; exact h
theorem op_a (x : Opx) : ∀ j v, (mcells x.a (.slice x.A' x.a.stamp.length x.c'))[j]? = some v → (opC x)[17 + j]? = some v := fun j v h => by
  unfold opC
  rw [show 17 + j = (16 + j) + 1 from by omega, List.getElem?_cons_succ, List.getElem?_append_right (by rw [mcells_len]; omega), mcells_len, Nat.add_sub_cancel_left]; exact h
theorem op_range {w : World} {g : Nat} {x : Opx} (h : Bk w g 45 (opC x)) : w.rangeAt g 1 (mcells x.m (.slice x.A x.m.stamp.length x.c)) ∧ w.rangeAt g 17 (mcells x.a (.slice x.A' x.a.stamp.length x.c')) :=
  ⟨fun j v hj => by have := range_of h (1 + j) v (op_m x j v hj); rwa [Nat.zero_add] at this, fun j v hj => by have := range_of h (17 + j) v (op_a x j v hj); rwa [Nat.zero_add] at this⟩
end Go.Proofs.YtaipbikbapjmjaaGreat
