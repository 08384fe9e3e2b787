/- Several texts of this claim in one. No condition beyond what each theorem states. -/
import Derived.Test.YtifdceofglocdaaB08
import Derived.Deep.LoopGhost
/- Where a grant stands by its id: slices.BinarySearchFunc and book.at by contract. No condition beyond what each theorem states. -/
namespace Go.Proofs.Ytifdceofglocdaa
open Go Go.RowKit Go.PlainAid

/-- i is where a grant of this id stands, or would stand -/
structure AtG (L : List Grt) (id : Int) (i : Nat) : Prop where
  le : i ≤ L.length
  lo : ∀ (k : Nat) (g : Grt), k < i → L[k]? = some g → g.id < id
  hi : ∀ (k : Nat) (g : Grt), i ≤ k → L[k]? = some g → id ≤ g.id
theorem sortedG_lt {L : List Grt} (h : L.Pairwise (fun x y => x.id < y.id)) {a b : Nat} {x y : Grt} (hab : a < b) (hx : L[a]? = some x) (hy : L[b]? = some y) : x.id < y.id := by
  obtain ⟨h1, rfl⟩ := List.getElem?_eq_some_iff.1 hx
  obtain ⟨h2, rfl⟩ := List.getElem?_eq_some_iff.1 hy
  exact List.pairwise_iff_getElem.1 h a b h1 h2 hab
theorem AtG.has {L : List Grt} {id : Int} {i : Nat} (h : AtG L id i) (hs : L.Pairwise (fun x y => x.id < y.id)) : hasG L id = true ↔ ∃ g, L[i]? = some g ∧ g.id = id := by
  rw [hasG_iff]
  constructor
  · rintro ⟨g, hg, e⟩
    obtain ⟨k, hk⟩ := List.getElem?_of_mem hg
    rcases Nat.lt_trichotomy k i with h1 | h1 | h1
    · have := h.lo k g h1 hk; omega
    · subst h1; exact ⟨g, hk, e⟩
    · have hkl := (List.getElem?_eq_some_iff.1 hk).1
      have h2 : L[i]? = some (L[i]'(by omega)) := List.getElem?_eq_getElem (by omega)
      have h3 := sortedG_lt hs h1 h2 hk
      have h4 := h.hi i _ (Nat.le_refl _) h2
      omega
  · rintro ⟨g, hg, e⟩
    exact ⟨g, List.mem_of_getElem? hg, e⟩

theorem atf_any (g : GP) (id : Int) (W : World) (A : Option Addr) (n c : Nat) (hg : g.2 = .slice A n c) :
    Calls Try.prog 90 #[.agg (pC g).toArray, .int .i64 id] W fun e w' => e = .returned (.int .i64 (cmpI g.1.id id)) ∧ Kp No W w' := by
  obtain ⟨⟨gid, hol, path, mode, st, term⟩, sv⟩ := g
  have hg : sv = .slice A n c := hg
  subst hg
  have kA : Kp No W (W.alloc (.cells (pC (⟨gid, hol, path, mode, st, term⟩, .slice A n c)).toArray 30)) := (Kp.refl No W).alloc _
  have pc := fun w => cmpI_any gid id w
  simp only [pC] at kA ⊢
  have HC := Lib.hid (show cmpI (⟨gid, hol, path, mode, st, term⟩ : Grt).id id = cmpI gid id from rfl)
  go_enter Try.func90, Try.ntmps90
  go_wp2_with (refine (pc _).mono ?_; rintro e w1 ⟨rfl, rfl⟩)
  go_ret
  exact ⟨rfl, kA⟩

set_option maxRecDepth 100000 in
set_option maxHeartbeats 4000000 in
theorem search_any (v : Value) (l : List GP) (id : Int) (W : World) (hv : ArgG W v l) (hl : l.length ≤ 1000) (hs : (gsL l).Pairwise (fun x y => x.id < y.id)) :
    Calls Try.prog 89 #[v, .int .i64 id, .func (.func 90) #[] #[]] W fun e w' => ∃ i : Nat, e = .returned (.tuple #[.int .i64 i, .bool (hasG (gsL l) id)]) ∧ AtG (gsL l) id i ∧ Kp No W w' := by
  have HV := Lib.hid hv; have HS := Lib.hid hs
  obtain ⟨A, c, rfl, _⟩ := hv.len
  clear hv hs
  obtain ⟨R, hR⟩ : ∃ R, R = hasG (gsL l) id := ⟨_, rfl⟩
  rw [← hR]
  have HR := Lib.hid hR; clear hR
  go_enter Try.func89, Try.ntmps89
  go_wp2
  go_loopg [9, 10] l.length (fun g s9 s10 wr => ∃ lo hi : Nat, s9 = .int .i64 lo ∧ s10 = .int .i64 hi ∧ lo ≤ hi ∧ hi ≤ l.length ∧ hi - lo ≤ g ∧ Kp No W wr ∧ (∀ (k : Nat) (x : Grt), k < lo → (gsL l)[k]? = some x → x.id < id) ∧ (∀ (k : Nat) (x : Grt), hi ≤ k → (gsL l)[k]? = some x → id ≤ x.id))
  case atStart => exact ⟨0, l.length, rfl, rfl, Nat.zero_le _, Nat.le_refl _, by omega, Kp.refl _ _, fun k x hk => absurd hk (Nat.not_lt_zero _), fun k x hk e => by
    have := (List.getElem?_eq_some_iff.1 e).1
    rw [gsL_len] at this; omega⟩
  case round =>
    obtain ⟨lo, hi, rfl, rfl, hlh, hin, hgg, hK, h1, h2⟩ := hrel
    have HK := Lib.hid hK; have H1 := Lib.hid h1; have H2 := Lib.hid h2; clear hK h1 h2
    by_cases hlt : lo < hi
    · have hml : (lo + hi) / 2 < l.length := by omega
      obtain ⟨g, o, gid, hol, path, mode, st, term, B, d, rfl, el, ha, hml2, x0, x1, x2, x3, x4, x5⟩ := (HV.out.no HK.out).cells hml
      have HE := Lib.hid (show (gsL l)[(lo + hi) / 2]? = some ⟨gid, hol, path, mode, st, term⟩ by
        rw [List.getElem?_eq_getElem (by rw [gsL_len]; exact hml), gsL_get hml, el])
      have pq := fun W2 => atf_any (⟨gid, hol, path, mode, st, term⟩, .slice B st.length d) id W2 B _ d rfl
      simp only [pC] at pq
      have HC := Lib.hid (cmpI_cases gid id)
      clear ha hml2 el
      have pq : ∀ W2, Calls Try.prog 90 #[.agg #[.int .i64 gid, .int .i64 hol, .string ⟨path.toArray⟩, .int .i64 mode, .slice B st.length d, .int .i64 term], .int .i64 id] W2 fun e w' => e = .returned (.int .i64 (cmpI gid id)) ∧ Kp No W2 w' := pq
      generalize cmpI gid id = cc at *
      by_cases hc : cc < 0
      · have HX := Lib.hid (show gid < id by rcases HC.out with h | h | h <;> omega)
        go_wp2_with fail
        refine (pq _).mono ?_
        rintro e w1 ⟨rfl, k1⟩
        have HK1 := Lib.hid (HK.out.trans k1); clear k1 pq
        go_wp2
        go_roundg (hi - ((lo + hi) / 2 + 1))
        case measure => omega
        case rel =>
          refine ⟨(lo + hi) / 2 + 1, hi, by rw [show ((lo : Int) + (hi : Int)) / 2 + 1 = (((lo + hi) / 2 + 1 : Nat) : Int) by omega], rfl, by omega, hin, Nat.le_refl _, HK1.out, fun k x hk e => ?_, H2.out⟩
          rcases Nat.lt_or_ge k ((lo + hi) / 2) with h | h
          · exact Int.lt_trans (sortedG_lt HS.out h e HE.out) HX.out
          · obtain rfl : k = (lo + hi) / 2 := by omega
            rw [HE.out] at e; injection e with e; rw [← e]; exact HX.out
      · have HX := Lib.hid (show id ≤ gid by rcases HC.out with h | h | h <;> omega)
        go_wp2_with fail
        refine (pq _).mono ?_
        rintro e w1 ⟨rfl, k1⟩
        have HK1 := Lib.hid (HK.out.trans k1); clear k1 pq
        go_wp2
        go_roundg ((lo + hi) / 2 - lo)
        case measure => omega
        case rel =>
          refine ⟨lo, (lo + hi) / 2, rfl, by rw [show ((lo : Int) + (hi : Int)) / 2 = (((lo + hi) / 2 : Nat) : Int) by omega], by omega, by omega, Nat.le_refl _, HK1.out, H1.out, fun k x hk e => ?_⟩
          rcases Nat.lt_or_ge ((lo + hi) / 2) k with h | h
          · have := sortedG_lt HS.out h HE.out e
            have h3 := HX.out
            have h4 : id ≤ (⟨gid, hol, path, mode, st, term⟩ : Grt).id := h3
            omega
          · obtain rfl : k = (lo + hi) / 2 := by omega
            rw [HE.out] at e; injection e with e; rw [← e]; exact HX.out
    · have : hi = lo := by omega
      subst this
      have HA := Lib.hid (show AtG (gsL l) id hi from ⟨by rw [gsL_len]; exact hin, H1.out, H2.out⟩)
      clear hlt hlh hgg
      by_cases hn : hi < l.length
      · obtain ⟨g, o, gid, hol, path, mode, st, term, B, d, rfl, el, ha, hml2, x0, x1, x2, x3, x4, x5⟩ := (HV.out.no HK.out).cells hn
        have HE := Lib.hid (show (gsL l)[hi]? = some ⟨gid, hol, path, mode, st, term⟩ by
          rw [List.getElem?_eq_getElem (by rw [gsL_len]; exact hn), gsL_get hn, el])
        have HC := Lib.hid (cmpI_cases gid id)
        have HQ := Lib.hid (show R = true ↔ gid = id by
          rw [HR.out, HA.out.has HS.out, HE.out]
          exact ⟨fun ⟨g, e, h⟩ => by injection e with e; rw [← e] at h; exact h, fun h => ⟨_, rfl, h⟩⟩)
        have pq : ∀ W2, Calls Try.prog 90 #[.agg #[.int .i64 gid, .int .i64 hol, .string ⟨path.toArray⟩, .int .i64 mode, .slice B st.length d, .int .i64 term], .int .i64 id] W2 fun e w' => e = .returned (.int .i64 (cmpI gid id)) ∧ Kp No W2 w' := fun W2 => atf_any (⟨gid, hol, path, mode, st, term⟩, .slice B st.length d) id W2 B _ d rfl
        clear ha hml2 el HR
        generalize cmpI gid id = cc at *
        by_cases hc : cc = 0
        · have HX := Lib.hid (show R = true from HQ.out.2 (by rcases HC.out with h | h | h <;> omega))
          subst hc
          go_wp2_with fail
          refine (pq _).mono ?_
          rintro e w1 ⟨rfl, k1⟩
          have HK1 := Lib.hid (HK.out.trans k1); clear k1 pq
          go_wp2
          go_ret2
          exact ⟨hi, by rw [HX.out]; rfl, HA.out, HK1.out⟩
        · have HX := Lib.hid (show R = false by
            cases hr : R with
            | false => rfl
            | true => exact absurd (HQ.out.1 hr) (by rcases HC.out with h | h | h <;> omega))
          have d : (cc == 0) = false := by rw [beq_eq_false_iff_ne]; exact hc
          clear hc
          go_wp2_with fail
          refine (pq _).mono ?_
          rintro e w1 ⟨rfl, k1⟩
          have HK1 := Lib.hid (HK.out.trans k1); clear k1 pq
          go_wp2
          go_ret2
          exact ⟨hi, by rw [HX.out]; rfl, HA.out, HK1.out⟩
      · obtain rfl : hi = l.length := by omega
        have HX := Lib.hid (show R = false by
          cases hr : R with
          | false => rfl
          | true =>
            rw [HR.out] at hr
            obtain ⟨g, e, _⟩ := (HA.out.has HS.out).1 hr
            have := (List.getElem?_eq_some_iff.1 e).1
            rw [gsL_len] at this; omega)
        clear hn
        go_wp2
        go_ret2
        exact ⟨_, by rw [HX.out]; rfl, HA.out, HK.out⟩
set_option maxHeartbeats 1000000 in
theorem at_any (v : Value) (l : List GP) (id : Int) (W : World) (hv : ArgG W v l) (hl : l.length ≤ 1000) (hs : (gsL l).Pairwise (fun x y => x.id < y.id)) :
    Calls Try.prog 71 #[v, .int .i64 id] W fun e w' => ∃ i : Nat, e = .returned (.tuple #[.int .i64 i, .bool (hasG (gsL l) id)]) ∧ AtG (gsL l) id i ∧ Kp No W w' := by
  have ps := search_any v l id W hv hl hs
  obtain ⟨A, c, rfl, _⟩ := hv.len
  clear hv hl hs
  go_enter Try.func71, Try.ntmps71
  go_wp2_with (refine ps.mono ?_; rintro e w1 ⟨i, rfl, h1, k1⟩)
  go_ret2
  exact ⟨i, rfl, h1, k1⟩
end Go.Proofs.Ytifdceofglocdaa

/- Grants with lists of their own: twin and copied by contract. No condition beyond what each theorem states. -/
namespace Go.Proofs.Ytifdceofglocdaa
open Go Go.RowKit Go.PlainAid

/-- a list of grants of the call's own: its row, and a row for each stamp -/
def OwnG (w : World) (B : Nat) (v : Value) (l : List GP) : Prop :=
  w.ownsRow B 30 6 v l.length (pL l) ∧ ∀ p ∈ l, w.ownsRow B 3 1 p.2 p.1.stamp.length (ints p.1.stamp)
theorem own_apart {w : World} {B B' n n' size size' : Nat} {t t' : TypeId} {v v' : Value} {xs xs' : List Value} (h : w.ownsRow B t size v n xs) (h' : w.ownsRow B' t' size' v' n' xs') (hne : t ≠ t') : ∀ g, v.ownBlock = some g → ¬ v'.ownBlock = some g := by
  intro g e e'
  obtain ⟨cs, hb⟩ := own_bk h g e
  obtain ⟨cs', hb'⟩ := own_bk h' g e'
  exact hb.ne_ hb' hne rfl
theorem OwnG.arg {w : World} {B : Nat} {v : Value} {l : List GP} (h : OwnG w B v l) : ArgG w v l := by
  obtain ⟨A, c, e, hc⟩ := own_len h.1
  refine ⟨A, c, e, hc, fun hne => ?_, fun p hp => own_argI (h.2 p hp)⟩
  obtain ⟨g, cap, e2, _, _, hlt⟩ := own_form h.1 (List.length_pos_iff.2 hne)
  refine ⟨g, 0, by rw [e] at e2; injection e2, hlt, fun k hk j u hu => ?_⟩
  have hj : j < 6 := (List.getElem?_eq_some_iff.1 hu).1
  have := h.1.cells (g := g) (by rw [e2]; rfl) (k * 6 + j) u (by rw [pL_get l k hk j hj]; exact hu)
  rw [Addr.add_mid] at this
  rwa [Nat.add_assoc]
theorem OwnG.no {w w' : World} {B : Nat} {v : Value} {l : List GP} (h : OwnG w B v l) (hk : Kp No w w') : OwnG w' B v l := ⟨own_kp h.1 hk fun _ _ m => m, fun p hp => own_kp (h.2 p hp) hk fun _ _ m => m⟩
theorem OwnG.mono {w : World} {B B' : Nat} {v : Value} {l : List GP} (h : OwnG w B v l) (hb : B' ≤ B) : OwnG w B' v l := ⟨own_mono h.1 hb, fun p hp => own_mono (h.2 p hp) hb⟩
theorem OwnG.nil (w : World) (B : Nat) : OwnG w B (.slice none 0 0) [] := ⟨nil_own _ _ _ _, fun p hp => by cases hp⟩
/-- from w to w' only blocks from B on have changed -/
def From (B : Nat) : Nat → Prop := fun k => B ≤ k
theorem Kp.from_no {B : Nat} {a b c : World} (h : Kp No a b) (k : Kp (From B) b c) (hB : a.heap.size ≤ B) : Kp No a c :=
  h.then_ k fun i hi m => by have : B ≤ i := m; omega
theorem Try.infoGr : (Try.prog.info? 30).map (fun i => (i.zero, i.size, i.bytes)) = some (some (.agg #[.int .i64 0, .int .i64 0, .string ⟨#[]⟩, .int .i64 0, .slice none 0 0, .int .i64 0]), 6, 72) := by kernel_rfl

set_option maxRecDepth 100000 in
set_option maxHeartbeats 4000000 in
theorem twin_any (p : GP) (W : World) (g0 o0 c0 : Nat) (hp : p.2 = .slice (some ⟨g0, o0, none⟩) p.1.stamp.length c0) (hs : ArgInts W p.2 p.1.stamp) (hl : p.1.stamp.length ≤ 17592186044416) :
    Calls Try.prog 68 #[.agg (pC p).toArray] W fun e w' => ∃ sv, e = .returned (.agg (pC (p.1, sv)).toArray) ∧ w'.ownsRow W.heap.size 3 1 sv p.1.stamp.length (ints p.1.stamp) ∧ Kp No W w' := by
  obtain ⟨⟨gid, hol, path, mode, st, term⟩, sv⟩ := p
  have hp : sv = .slice (some ⟨g0, o0, none⟩) st.length c0 := hp
  have hs : ArgInts W sv st := hs
  have hl : st.length ≤ 17592186044416 := hl
  subst hp
  obtain ⟨w2, hw2⟩ : ∃ w2, w2 = (W.alloc (.cells #[.int .i64 gid, .int .i64 hol, .string ⟨path.toArray⟩, .int .i64 mode, .slice (some ⟨g0, o0, none⟩) st.length c0, .int .i64 term] 30)).alloc (.cells #[.int .i64 0, .int .i64 0, .string ⟨#[]⟩, .int .i64 0, .slice none 0 0, .int .i64 0] 30) := ⟨_, rfl⟩
  have HB1 := Lib.hid (show Bk w2 W.heap.size 30 [.int .i64 gid, .int .i64 hol, .string ⟨path.toArray⟩, .int .i64 mode, .slice (some ⟨g0, o0, none⟩) st.length c0, .int .i64 term] by rw [hw2]; exact (Bk.new' rfl rfl).alloc _)
  have HB2 := Lib.hid (show Bk w2 (W.heap.size + 1) 30 [.int .i64 0, .int .i64 0, .string ⟨#[]⟩, .int .i64 0, .slice none 0 0, .int .i64 0] by rw [hw2]; exact Bk.new' (by simp) rfl)
  have HK2 := Lib.hid (show Kp No W w2 by rw [hw2]; exact ((Kp.refl No W).alloc _).alloc _)
  have pc := cloneI_any g0 o0 c0 st w2 (hs.no HK2.out) hl
  have HW := Lib.hid hw2
  clear hw2 hs hl
  have z4 : w2.cell? ⟨W.heap.size, 4, none⟩ = some (.slice (some ⟨g0, o0, none⟩) st.length c0) := HB1.out.cell 4
  simp only [pC]
  go_enter Try.func68, Try.ntmps68
  go_upto_region 1 with (fail)
  rw [← HW.out]
  clear HW
  go_wp2_with fail
  refine pc.mono ?_
  rintro e w3 ⟨r, rfl, o3, k3⟩
  have HO3 := Lib.hid o3; have HK3 := Lib.hid k3
  obtain ⟨A3, c3, rfl, _⟩ := own_len o3
  have B1 := HB1.out.no k3; have B2 := HB2.out.no k3
  clear o3 k3 z4 pc
  have y0 : w3.cell? ⟨W.heap.size, 0, none⟩ = some (.int .i64 gid) := B1.cell 0
  have y1 : w3.cell? ⟨W.heap.size, 1, none⟩ = some (.int .i64 hol) := B1.cell 1
  have y2 : w3.cell? ⟨W.heap.size, 2, none⟩ = some (.string ⟨path.toArray⟩) := B1.cell 2
  have y3 : w3.cell? ⟨W.heap.size, 3, none⟩ = some (.int .i64 mode) := B1.cell 3
  have y4 : w3.cell? ⟨W.heap.size, 4, none⟩ = some (.slice (some ⟨g0, o0, none⟩) st.length c0) := B1.cell 4
  have y5 : w3.cell? ⟨W.heap.size, 5, none⟩ = some (.int .i64 term) := B1.cell 5
  have f4 := B1.frozen 4
  have u0 : w3.cell? ⟨W.heap.size + 1, 0, none⟩ = some (.int .i64 0) := B2.cell 0
  have u1 : w3.cell? ⟨W.heap.size + 1, 1, none⟩ = some (.int .i64 0) := B2.cell 1
  have u2 : w3.cell? ⟨W.heap.size + 1, 2, none⟩ = some (.string ⟨#[]⟩) := B2.cell 2
  have u3 : w3.cell? ⟨W.heap.size + 1, 3, none⟩ = some (.int .i64 0) := B2.cell 3
  have u4 : w3.cell? ⟨W.heap.size + 1, 4, none⟩ = some (.slice none 0 0) := B2.cell 4
  have u5 : w3.cell? ⟨W.heap.size + 1, 5, none⟩ = some (.int .i64 0) := B2.cell 5
  have v0 := B2.frozen 0; have v1 := B2.frozen 1; have v2 := B2.frozen 2; have v3 := B2.frozen 3; have v4 := B2.frozen 4; have v5 := B2.frozen 5
  have HB1 := Lib.hid B1; have HB2 := Lib.hid B2
  clear B1 B2
  go_wp2
  have B9 := ((((((HB2.out.far (p := ⟨W.heap.size, 4, none⟩) (by show W.heap.size + 1 ≠ W.heap.size; omega) (.slice A3 st.length c3)).set_ 0 (.int .i64 gid)).set_ 1 (.int .i64 hol)).set_ 2 (.string ⟨path.toArray⟩)).set_ 3 (.int .i64 mode)).set_ 4 (.slice A3 st.length c3)).set_ 5 (.int .i64 term)
  have K9 : Kp (fun k => k = W.heap.size ∨ k = W.heap.size + 1) w3 _ := ((((((((Kp.refl (fun k => k = W.heap.size ∨ k = W.heap.size + 1) w3).set (g := W.heap.size) (.inl (.inl rfl)) 4 (.slice A3 st.length c3)).set (g := W.heap.size + 1) (.inl (.inr rfl)) 0 (.int .i64 gid)).set (g := W.heap.size + 1) (.inl (.inr rfl)) 1 (.int .i64 hol)).set (g := W.heap.size + 1) (.inl (.inr rfl)) 2 (.string ⟨path.toArray⟩)).set (g := W.heap.size + 1) (.inl (.inr rfl)) 3 (.int .i64 mode)).set (g := W.heap.size + 1) (.inl (.inr rfl)) 4 (.slice A3 st.length c3)).set (g := W.heap.size + 1) (.inl (.inr rfl)) 5 (.int .i64 term))
  generalize hw9 : World.setCell _ ⟨W.heap.size + 1, 5, none⟩ _ = w9 at B9 K9 ⊢
  have x0 : w9.cell? ⟨W.heap.size + 1, 0, none⟩ = some (.int .i64 gid) := B9.cell 0
  have x1 : w9.cell? ⟨W.heap.size + 1, 1, none⟩ = some (.int .i64 hol) := B9.cell 1
  have x2 : w9.cell? ⟨W.heap.size + 1, 2, none⟩ = some (.string ⟨path.toArray⟩) := B9.cell 2
  have x3 : w9.cell? ⟨W.heap.size + 1, 3, none⟩ = some (.int .i64 mode) := B9.cell 3
  have x4 : w9.cell? ⟨W.heap.size + 1, 4, none⟩ = some (.slice A3 st.length c3) := B9.cell 4
  have x5 : w9.cell? ⟨W.heap.size + 1, 5, none⟩ = some (.int .i64 term) := B9.cell 5
  have HN := Lib.hid (show ∀ k, (Value.slice A3 st.length c3).ownBlock = some k → ¬ (k = W.heap.size ∨ k = W.heap.size + 1) from fun k e => by
    obtain ⟨cs, hb⟩ := own_bk HO3.out k e
    rintro (rfl | rfl)
    · exact hb.ne_ HB1.out (by decide) rfl
    · exact hb.ne_ HB2.out (by decide) rfl)
  refine bodyPost_ret (v := .agg #[.int .i64 gid, .int .i64 hol, .string ⟨path.toArray⟩, .int .i64 mode, .slice A3 st.length c3, .int .i64 term]) (by simp [results, Try.results68, go_sem, x0, x1, x2, x3, x4, x5]) rfl ?_
  exact ⟨_, rfl, own_mono (own_kp HO3.out K9 HN.out) HK2.out.size, (HK2.out.trans HK3.out).then_ K9 fun j hj e => by omega⟩

theorem pL_pair (m : List GP) (p : GP) : pL (m ++ [p]) = pL m ++ pC p := pL_snoc m p
set_option maxRecDepth 100000 in
set_option maxHeartbeats 8000000 in
theorem copied_any (n k t : Int) (v : Value) (l : List GP) (W : World) (hv : ArgG W v l) (hl : l.length ≤ 1000) (hst : ∀ p ∈ l, p.1.stamp ≠ [] ∧ p.1.stamp.length ≤ 17592186044416) :
    Calls Try.prog 34 #[.agg #[.int .i64 n, .int .i64 k, .int .i64 t, v]] W fun e w' => ∃ sv l', e = .returned (.agg #[.int .i64 n, .int .i64 k, .int .i64 t, sv]) ∧ gsL l' = gsL l ∧ OwnG w' W.heap.size sv l' ∧ Kp No W w' := by
  have HV := Lib.hid hv
  obtain ⟨A, c, rfl, _⟩ := hv.len
  obtain ⟨w2, hw2⟩ : ∃ w2, w2 = (W.alloc (.cells #[.int .i64 n, .int .i64 k, .int .i64 t, .slice A l.length c] 25)).alloc (.cells #[.int .i64 0, .int .i64 0, .int .i64 0, .slice none 0 0] 25) := ⟨_, rfl⟩
  have HB1 := Lib.hid (show Bk w2 W.heap.size 25 [.int .i64 n, .int .i64 k, .int .i64 t, .slice A l.length c] by rw [hw2]; exact (Bk.new' rfl rfl).alloc _)
  have HB2 := Lib.hid (show Bk w2 (W.heap.size + 1) 25 [.int .i64 0, .int .i64 0, .int .i64 0, .slice none 0 0] by rw [hw2]; exact Bk.new' (by simp) rfl)
  have HK2 := Lib.hid (show Kp No W w2 by rw [hw2]; exact ((Kp.refl No W).alloc _).alloc _)
  have HST := Lib.hid hst
  have HW := Lib.hid hw2
  clear hw2 hv hst
  have a3 : w2.cell? ⟨W.heap.size, 3, none⟩ = some (.slice A l.length c) := HB1.out.cell 3
  go_enter Try.func34, Try.ntmps34
  go_upto_region 1 with (fail)
  rw [← HW.out]
  clear HW
  go_wp2
  clear a3
  go_loopw [9, 3] (fun i o wr => ∃ (j : Nat) (m : List GP), j ≤ l.length ∧ i = .int .i64 j ∧ gsL m = gsL (l.take j) ∧ OwnG wr w2.heap.size o m ∧ Kp No w2 wr) (fun i _ _ => l.length - (intOf i).toNat)
  case atStart => exact ⟨0, [], Nat.zero_le _, rfl, rfl, OwnG.nil _ _, Kp.refl _ _⟩
  case round =>
    obtain ⟨j, m, hj, rfl, hm, hO, hK⟩ := hrel
    have HM := Lib.hid hm; have HO := Lib.hid hO; have HK := Lib.hid hK
    clear hm hO hK
    by_cases hlt : j < l.length
    · have hk0 : (0 : Int) ≤ (j : Int) := by omega
      have hk1 : (j : Int) < (l.length : Int) := by omega
      have kW : Kp No W wr := HK2.out.trans HK.out
      obtain ⟨g, o, gid, hol, path, mode, st, term, B, d, rfl, el, ha, hml, x0, x1, x2, x3, x4, x5⟩ := (HV.out.no kW).cells hlt
      have hst := HST.out _ hml
      have HS1 := Lib.hid (gsL_snoc hlt)
      rw [el] at HS1 hst
      have hst1 : st ≠ [] := hst.1
      obtain ⟨g2, o2, c2, eB, _⟩ := ha.at_ (List.length_pos_iff.2 hst1)
      injection eB with eB _ ec
      subst eB ec
      have hmj : m.length = j := by
        have := congrArg List.length HM.out
        rw [gsL_len, gsL_len, List.length_take] at this
        omega
      have HMJ := Lib.hid hmj
      have HA := Lib.hid ha
      have hstl : st.length ≤ 17592186044416 := hst.2
      have pt := fun W2 (kk : Kp No wr W2) => twin_any (⟨gid, hol, path, mode, st, term⟩, .slice (some ⟨g2, o2, none⟩) st.length d) W2 g2 o2 d rfl (HA.out.no kk) hstl
      simp only [pC] at pt
      have kA : Kp No wr (wr.alloc (.cells #[.int .i64 gid, .int .i64 hol, .string ⟨path.toArray⟩, .int .i64 mode, .slice (some ⟨g2, o2, none⟩) st.length d, .int .i64 term] 30)) := (Kp.refl No wr).alloc _
      clear hlt ha hml el hst hst1 hmj hstl
      go_wp2_with fail
      refine (pt _ kA).mono ?_
      rintro e w4 ⟨sv, rfl, o4, k4⟩
      obtain ⟨A4, c4, rfl, _⟩ := own_len o4
      have HO4 := Lib.hid o4
      have HK4 := Lib.hid (kA.trans k4)
      clear pt kA k4 o4 x0 x1 x2 x3 x4 x5
      have hsz : w2.heap.size ≤ w4.heap.size := Nat.le_trans HK.out.size HK4.out.size
      have HR := Lib.hid ((HO.out.no HK4.out).1)
      rw [HMJ.out] at HR
      go_wp2_with (at_builtin; refine wpList_app1 _ rfl _ _ 23 rfl w2.heap.size 30 _ 6 72 Try.underlying23 Try.infoGr rfl (by omega) _ j (pL m) rfl (HR.out.alloc _) _ _ _ rfl (Bk.new' (by simp) rfl : Bk _ _ _ [.int .i64 gid, .int .i64 hol, .string ⟨path.toArray⟩, .int .i64 mode, .slice A4 st.length c4, .int .i64 term]) rfl (by simp [Value.oneCell']) (by omega) (by omega) (by simp; omega) ?_; intro g5 cap5 w5 hown5 hk5 hat5)
      have HO5 := Lib.hid hown5; have HK5 := Lib.hid hk5
      clear hown5 hk5 hat5
      go_roundw
      case rel =>
        have e1 : (m ++ [((⟨gid, hol, path, mode, st, term⟩, .slice A4 st.length c4) : GP)]).length = j + 1 := by rw [List.length_append, HMJ.out]; rfl
        have ha5 : Kp No w4 (w4.alloc (.cells #[.int .i64 gid, .int .i64 hol, .string ⟨path.toArray⟩, .int .i64 mode, .slice A4 st.length c4, .int .i64 term] 30)) := (Kp.refl No w4).alloc _
        have hrow := HR.out
        refine ⟨j + 1, m ++ [(⟨gid, hol, path, mode, st, term⟩, .slice A4 st.length c4)], by have := hk1; omega, by go_num, ?_, ⟨?_, ?_⟩, ?_⟩
        · rw [HS1.out, ← HM.out]; simp [gsL]
        · rw [e1, pL_snoc]; exact HO5.out
        · intro p hp
          rw [List.mem_append, List.mem_singleton] at hp
          rcases hp with hp | rfl
          · have h1 := (HO.out.no HK4.out).2 p hp
            clear hp
            exact own_kp (own_kp h1 ha5 fun _ _ q => q) HK5.out (own_apart h1 hrow (by decide))
          · have h1 := HO4.out
            exact own_mono (own_kp (own_kp h1 ha5 fun _ _ q => q) HK5.out (own_apart h1 hrow (by decide))) (by have := HK.out.size; simp; omega)
        · have kk := (HK.out.trans HK4.out).trans ha5
          exact kk.then_ HK5.out fun i hi e => by have := hrow.lt i e; omega
      case measure => simp [intOf]; omega
    · have hk1 : ¬ (j : Int) < (l.length : Int) := by omega
      have hjl : j = l.length := by omega
      have HM := Lib.hid (show gsL m = gsL l by rw [HM.out, hjl, List.take_length])
      clear hlt hjl
      obtain ⟨A5, c5, rfl, _⟩ := own_len HO.out.1
      have B1 := HB1.out.no HK.out; have B2 := HB2.out.no HK.out
      have y0 : wr.cell? ⟨W.heap.size, 0, none⟩ = some (.int .i64 n) := B1.cell 0
      have y1 : wr.cell? ⟨W.heap.size, 1, none⟩ = some (.int .i64 k) := B1.cell 1
      have y2 : wr.cell? ⟨W.heap.size, 2, none⟩ = some (.int .i64 t) := B1.cell 2
      have y3 : wr.cell? ⟨W.heap.size, 3, none⟩ = some (.slice A l.length c) := B1.cell 3
      have f3 := B1.frozen 3
      have u0 : wr.cell? ⟨W.heap.size + 1, 0, none⟩ = some (.int .i64 0) := B2.cell 0
      have u1 : wr.cell? ⟨W.heap.size + 1, 1, none⟩ = some (.int .i64 0) := B2.cell 1
      have u2 : wr.cell? ⟨W.heap.size + 1, 2, none⟩ = some (.int .i64 0) := B2.cell 2
      have u3 : wr.cell? ⟨W.heap.size + 1, 3, none⟩ = some (.slice none 0 0) := B2.cell 3
      have v0 := B2.frozen 0; have v1 := B2.frozen 1; have v2 := B2.frozen 2; have v3 := B2.frozen 3
      have HB1 := Lib.hid B1; have HB2 := Lib.hid B2
      clear B1 B2
      go_wp2
      have B9 := ((((HB2.out.far (p := ⟨W.heap.size, 3, none⟩) (by show W.heap.size + 1 ≠ W.heap.size; omega) (.slice A5 m.length c5)).set_ 0 (.int .i64 n)).set_ 1 (.int .i64 k)).set_ 2 (.int .i64 t)).set_ 3 (.slice A5 m.length c5)
      have K9 : Kp (fun k => k = W.heap.size ∨ k = W.heap.size + 1) wr _ := ((((((Kp.refl (fun k => k = W.heap.size ∨ k = W.heap.size + 1) wr).set (g := W.heap.size) (.inl (.inl rfl)) 3 (.slice A5 m.length c5)).set (g := W.heap.size + 1) (.inl (.inr rfl)) 0 (.int .i64 n)).set (g := W.heap.size + 1) (.inl (.inr rfl)) 1 (.int .i64 k)).set (g := W.heap.size + 1) (.inl (.inr rfl)) 2 (.int .i64 t)).set (g := W.heap.size + 1) (.inl (.inr rfl)) 3 (.slice A5 m.length c5))
      generalize hw9 : World.setCell _ ⟨W.heap.size + 1, 3, none⟩ _ = w9 at B9 K9 ⊢
      have x0 : w9.cell? ⟨W.heap.size + 1, 0, none⟩ = some (.int .i64 n) := B9.cell 0
      have x1 : w9.cell? ⟨W.heap.size + 1, 1, none⟩ = some (.int .i64 k) := B9.cell 1
      have x2 : w9.cell? ⟨W.heap.size + 1, 2, none⟩ = some (.int .i64 t) := B9.cell 2
      have x3 : w9.cell? ⟨W.heap.size + 1, 3, none⟩ = some (.slice A5 m.length c5) := B9.cell 3
      have HN : ∀ {B size n : Nat} {v : Value} {xs : List Value} {tt : TypeId}, wr.ownsRow B tt size v n xs → tt ≠ 25 → ∀ k, v.ownBlock = some k → ¬ (k = W.heap.size ∨ k = W.heap.size + 1) := fun h ht k e => by
        obtain ⟨cs, hb⟩ := own_bk h k e
        rintro (rfl | rfl)
        · exact hb.ne_ HB1.out ht rfl
        · exact hb.ne_ HB2.out ht rfl
      have HF := Lib.hid (show OwnG w9 W.heap.size (.slice A5 m.length c5) m from OwnG.mono (B := w2.heap.size) ⟨own_kp HO.out.1 K9 (HN HO.out.1 (by decide)), fun p hp => own_kp (HO.out.2 p hp) K9 (HN (HO.out.2 p hp) (by decide))⟩ HK2.out.size)
      have HKF := Lib.hid (show Kp No W w9 from (HK2.out.trans HK.out).then_ K9 fun j hj e => by omega)
      refine bodyPost_ret (v := .agg #[.int .i64 n, .int .i64 k, .int .i64 t, .slice A5 m.length c5]) (by simp [results, Try.results34, go_sem, x0, x1, x2, x3]) rfl ?_
      first | exact ⟨_, m, rfl, HM.out, HF.out, HKF.out⟩ | exact ⟨_, rfl, m, HM.out, HF.out, HKF.out⟩
end Go.Proofs.Ytifdceofglocdaa

/- Which limit stands against a record, and an empty book: book.limits, New by contract. No condition beyond what each theorem states. -/
namespace Go.Proofs.Ytifdceofglocdaa
open Go Go.RowKit Go.PlainAid

theorem limit_bk (n k t : Int) (l : List GP) (kind : Int) : limitB (bk n k t l) kind = if (kind = 4 ∨ kind = 5) ∧ 1099511627776 < n ∨ kind = 7 ∧ k = 1099511627776 then 66 else if (kind = 3 ∨ kind = 4) ∧ l.length = 6 then 51 else 0 := by
  unfold limitB bk
  simp only [gsL_len]
set_option maxHeartbeats 4000000 in
theorem limits_any (n k t kind : Int) (A : Option Addr) (c : Nat) (l : List GP) (W : World) :
    Calls Try.prog 33 #[.agg #[.int .i64 n, .int .i64 k, .int .i64 t, .slice A l.length c], .int .i64 kind] W fun e w' => e = .returned (.int .i64 (limitB (bk n k t l) kind)) ∧ Kp No W w' := by
  have HS := Lib.hid (limit_bk n k t l kind)
  obtain ⟨R, hR⟩ : ∃ R, R = limitB (bk n k t l) kind := ⟨_, rfl⟩
  rw [← hR]
  have HR := Lib.hid hR; clear hR
  have kA : Kp No W (W.alloc (.cells #[.int .i64 n, .int .i64 k, .int .i64 t, .slice A l.length c] 25)) := (Kp.refl No W).alloc _
  by_cases e4 : kind = 4
  · subst e4
    by_cases h1 : 1099511627776 < n
    · have HX := Lib.hid (show R = 66 by rw [HR.out, HS.out]; simp [h1])
      go_enter Try.func33, Try.ntmps33
      go_wp2
      go_ret
      exact ⟨ret_int rfl HX.out.symm, kA⟩
    · by_cases h2 : l.length = 6
      · have HX := Lib.hid (show R = 51 by rw [HR.out, HS.out]; simp [h1, h2])
        have d : ((l.length : Int) == 6) = true := by rw [beq_iff_eq]; omega
        have d1 : decide (1099511627776 < n) = false := by simpa using h1
        clear h2
        go_enter Try.func33, Try.ntmps33
        go_wp2
        go_ret
        exact ⟨ret_int rfl HX.out.symm, kA⟩
      · have HX := Lib.hid (show R = 0 by rw [HR.out, HS.out]; simp [h1, h2])
        have d : ((l.length : Int) == 6) = false := by rw [beq_eq_false_iff_ne]; omega
        have d1 : decide (1099511627776 < n) = false := by simpa using h1
        clear h2
        go_enter Try.func33, Try.ntmps33
        go_wp2
        go_ret
        exact ⟨ret_int rfl HX.out.symm, kA⟩
  by_cases e5 : kind = 5
  · subst e5
    by_cases h1 : 1099511627776 < n
    · have HX := Lib.hid (show R = 66 by rw [HR.out, HS.out]; simp [h1])
      clear e4
      go_enter Try.func33, Try.ntmps33
      go_wp2
      go_ret
      exact ⟨ret_int rfl HX.out.symm, kA⟩
    · have HX := Lib.hid (show R = 0 by rw [HR.out, HS.out]; simp [h1])
      have d1 : decide (1099511627776 < n) = false := by simpa using h1
      clear e4
      go_enter Try.func33, Try.ntmps33
      go_wp2
      go_ret
      exact ⟨ret_int rfl HX.out.symm, kA⟩
  by_cases e7 : kind = 7
  · subst e7
    by_cases h1 : k = 1099511627776
    · have HX := Lib.hid (show R = 66 by rw [HR.out, HS.out]; simp [h1])
      have d1 : (k == 1099511627776) = true := by rw [beq_iff_eq]; exact h1
      clear h1 e4 e5
      go_enter Try.func33, Try.ntmps33
      go_wp2
      go_ret
      exact ⟨ret_int rfl HX.out.symm, kA⟩
    · have HX := Lib.hid (show R = 0 by rw [HR.out, HS.out]; simp [h1])
      have d1 : (k == 1099511627776) = false := by rw [beq_eq_false_iff_ne]; exact h1
      clear h1 e4 e5
      go_enter Try.func33, Try.ntmps33
      go_wp2
      go_ret
      exact ⟨ret_int rfl HX.out.symm, kA⟩
  have f4 : (kind == 4) = false := by rw [beq_eq_false_iff_ne]; exact e4
  have f5 : (kind == 5) = false := by rw [beq_eq_false_iff_ne]; exact e5
  have f7 : (kind == 7) = false := by rw [beq_eq_false_iff_ne]; exact e7
  by_cases e3 : kind = 3
  · subst e3
    by_cases h2 : l.length = 6
    · have HX := Lib.hid (show R = 51 by rw [HR.out, HS.out]; simp [h2])
      have d : ((l.length : Int) == 6) = true := by rw [beq_iff_eq]; omega
      clear h2 e4 e5 e7 f4 f5 f7
      go_enter Try.func33, Try.ntmps33
      go_wp2
      go_ret
      exact ⟨ret_int rfl HX.out.symm, kA⟩
    · have HX := Lib.hid (show R = 0 by rw [HR.out, HS.out]; simp [h2])
      have d : ((l.length : Int) == 6) = false := by rw [beq_eq_false_iff_ne]; omega
      clear h2 e4 e5 e7 f4 f5 f7
      go_enter Try.func33, Try.ntmps33
      go_wp2
      go_ret
      exact ⟨ret_int rfl HX.out.symm, kA⟩
  · have HX := Lib.hid (show R = 0 by rw [HR.out, HS.out]; simp [e3, e4, e5, e7])
    have f3 : (kind == 3) = false := by rw [beq_eq_false_iff_ne]; exact e3
    clear e3 e4 e5 e7
    go_enter Try.func33, Try.ntmps33
    go_wp2
    go_ret
    exact ⟨ret_int rfl HX.out.symm, kA⟩
set_option maxHeartbeats 1000000 in
theorem new_any (W : World) : Calls Try.prog 20 #[] W fun e w' => e = .returned (.agg #[.int .i64 1, .int .i64 0, .int .i64 0, .slice none 0 0]) ∧ Kp No W w' := by
  have HB := Lib.hid (show Bk (W.alloc (.cells #[.int .i64 1, .int .i64 0, .int .i64 0, .slice none 0 0] 25)) W.heap.size 25 [.int .i64 1, .int .i64 0, .int .i64 0, .slice none 0 0] from Bk.new' rfl rfl)
  have kA : Kp No W (W.alloc (.cells #[.int .i64 1, .int .i64 0, .int .i64 0, .slice none 0 0] 25)) := (Kp.refl No W).alloc _
  go_enter Try.func20, Try.ntmps20
  go_wp2
  have x0 := HB.out.cell 0; have x1 := HB.out.cell 1; have x2 := HB.out.cell 2; have x3 := HB.out.cell 3
  simp only [List.getElem?_cons_zero, List.getElem?_cons_succ] at x0 x1 x2 x3
  trace_state
  refine bodyPost_ret (v := .agg #[.int .i64 1, .int .i64 0, .int .i64 0, .slice none 0 0]) (by simp [results, Try.results20, go_sem, x0, x1, x2, x3]) rfl ?_
  exact ⟨rfl, kA⟩
set_option maxHeartbeats 1000000 in
theorem rnew_any (W : World) : Calls Try.prog 21 #[] W fun e w' => e = .returned (.agg #[.int .i64 1, .int .i64 0, .int .i64 0, .slice none 0 0]) ∧ Kp No W w' := by
  have HB := Lib.hid (show Bk (W.alloc (.cells #[.int .i64 1, .int .i64 0, .int .i64 0, .slice none 0 0] 25)) W.heap.size 25 [.int .i64 1, .int .i64 0, .int .i64 0, .slice none 0 0] from Bk.new' rfl rfl)
  have kA : Kp No W (W.alloc (.cells #[.int .i64 1, .int .i64 0, .int .i64 0, .slice none 0 0] 25)) := (Kp.refl No W).alloc _
  go_enter Try.func21, Try.ntmps21
  go_wp2
  have x0 := HB.out.cell 0; have x1 := HB.out.cell 1; have x2 := HB.out.cell 2; have x3 := HB.out.cell 3
  simp only [List.getElem?_cons_zero, List.getElem?_cons_succ] at x0 x1 x2 x3
  refine bodyPost_ret (v := .agg #[.int .i64 1, .int .i64 0, .int .i64 0, .slice none 0 0]) (by simp [results, Try.results21, go_sem, x0, x1, x2, x3]) rfl ?_
  exact ⟨rfl, kA⟩
end Go.Proofs.Ytifdceofglocdaa
