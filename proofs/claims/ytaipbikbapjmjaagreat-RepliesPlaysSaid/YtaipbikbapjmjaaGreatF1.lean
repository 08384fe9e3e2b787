/- Several texts of this claim in one. No condition beyond what each theorem states. -/
import Derived.Test.YtaipbikbapjmjaaGreatB16
import Derived.Test.YtaipbikbapjmjaaGreatB17
/- The document's replies in memory: lists of clients with lists of messages. No condition beyond what each theorem states. -/
namespace Go.Proofs.YtaipbikbapjmjaaGreat
open Go Go.RowKit Go.PlainAid

/-- answers, each with the value of its stamp -/
def ansC (L : List (Msg × Value)) : List Value := (L.map fun x => mcells x.1 x.2).flatten
theorem mcells_len (m : Msg) (sv : Value) : (mcells m sv).length = 16 := rfl
theorem ansC_len : ∀ L : List (Msg × Value), (ansC L).length = 16 * L.length
  | [] => rfl
  | x :: L => by
    have h := ansC_len L
    unfold ansC at h ⊢
    rw [List.map_cons, List.flatten_cons, List.length_append, h, mcells_len, List.length_cons]; omega
theorem ansC_snoc (L : List (Msg × Value)) (x : Msg × Value) : ansC (L ++ [x]) = ansC L ++ mcells x.1 x.2 := by simp [ansC]
theorem ansC_split (L : List (Msg × Value)) (k : Nat) (hk : k < L.length) : ansC L = ansC (L.take k) ++ (mcells L[k].1 L[k].2 ++ ansC (L.drop (k + 1))) := by
  have e : L = L.take k ++ (L[k] :: L.drop (k + 1)) := by rw [← List.drop_eq_getElem_cons hk, List.take_append_drop]
  conv => lhs; rw [e]
  unfold ansC
  rw [List.map_append, List.flatten_append, List.map_cons, List.flatten_cons]
theorem range_mid {w : World} {g o : Nat} {p m q : List Value} {k : Nat} (h : w.rangeAt g o (p ++ (m ++ q))) (hp : p.length = k) : w.rangeAt g (o + k) m := fun j v hv => by
  have hj := (List.getElem?_eq_some_iff.1 hv).1
  have := h (k + j) v (by rw [List.getElem?_append_right (by omega), hp, Nat.add_sub_cancel_left, List.getElem?_append_left hj]; exact hv)
  rwa [Nat.add_assoc]
/-- a list of answers that is read -/
def AnsR (w : World) (v : Value) (L : List (Msg × Value)) : Prop := (∃ A c, v = .slice A L.length c ∧ L.length ≤ c ∧ (L ≠ [] → ∃ g o cs, A = some ⟨g, o, none⟩ ∧ Bk w g 32 cs ∧ w.rangeAt g o (ansC L))) ∧ ∀ x ∈ L, SlI w x.2 x.1.stamp
theorem AnsR.kp {w w' : World} {v : Value} {L : List (Msg × Value)} {M : Nat → Prop} (h : AnsR w v L) (hk : Kp M w w') (hm : ∀ g t cs, Bk w g t cs → t = 32 ∨ t = 3 → ¬ M g) : AnsR w' v L := by
  obtain ⟨⟨A, c, e, hc, h1⟩, h2⟩ := h
  refine ⟨⟨A, c, e, hc, fun hne => ?_⟩, fun x hx => (h2 x hx).kp hk fun g cs hb => hm g _ cs hb (.inr rfl)⟩
  obtain ⟨g, o, cs, e1, hb, hr⟩ := h1 hne
  exact ⟨g, o, cs, e1, hb.kp hk (hm g _ cs hb (.inl rfl)), range_kp hr hk (hm g _ cs hb (.inl rfl))⟩
theorem AnsR.no {w w' : World} {v : Value} {L : List (Msg × Value)} (h : AnsR w v L) (hk : Kp No w w') : AnsR w' v L := h.kp hk fun _ _ _ _ _ m => m
theorem AnsR.nil (w : World) : AnsR w (.slice none 0 0) [] := ⟨⟨none, 0, rfl, Nat.le_refl _, fun h => absurd rfl h⟩, by simp⟩
/-- one of them -/
theorem AnsR.at_ {w : World} {v : Value} {L : List (Msg × Value)} (h : AnsR w v L) {k : Nat} (hk : k < L.length) : ∃ g o c, v = .slice (some ⟨g, o, none⟩) L.length c ∧ L.length ≤ c ∧ w.rangeAt g (o + k * 16) (mcells L[k].1 L[k].2) ∧ SlI w L[k].2 L[k].1.stamp := by
  obtain ⟨⟨A, c, e, hc, h1⟩, h2⟩ := h
  obtain ⟨g, o, cs, rfl, hb, hr⟩ := h1 (fun e => by rw [e] at hk; simp at hk)
  refine ⟨g, o, c, e, hc, ?_, h2 _ (List.getElem_mem hk)⟩
  rw [ansC_split L k hk] at hr
  exact range_mid hr (by rw [ansC_len, List.length_take]; omega)
/-- a row of the call's own reads so -/
theorem own_range {w : World} {B n s : Nat} {t : TypeId} {v : Value} {xs : List Value} (h : w.ownsRow B t s v n xs) : ∃ A c, v = .slice A n c ∧ n ≤ c ∧ (0 < n → ∃ g cs, A = some ⟨g, 0, none⟩ ∧ Bk w g t cs ∧ w.rangeAt g 0 xs) := by
  obtain ⟨A, c, e, hc⟩ := own_len h
  refine ⟨A, c, e, hc, fun hn => ?_⟩
  obtain ⟨g, cap, e2, _⟩ := own_form h hn
  rw [e] at e2
  injection e2 with e3 _ _
  obtain ⟨cs, hb⟩ := own_bk h g (by rw [e, e3]; rfl)
  refine ⟨g, cs, e3, hb, fun j u hu => ?_⟩
  have := h.cells (g := g) (by rw [e, e3]; rfl) j u hu
  rwa [Addr.add_mid] at this
theorem own_ans {w : World} {B : Nat} {v : Value} {L : List (Msg × Value)} (h : w.ownsRow B 32 16 v L.length (ansC L)) (hs : ∀ x ∈ L, SlI w x.2 x.1.stamp) : AnsR w v L := by
  obtain ⟨A, c, e, hc, h2⟩ := own_range h
  refine ⟨⟨A, c, e, hc, fun hne => ?_⟩, hs⟩
  obtain ⟨g, cs, e1, hb, hr⟩ := h2 (List.length_pos_iff.2 hne)
  exact ⟨g, 0, cs, e1, hb, hr⟩

/-- a client in memory -/
structure Dc where
  boot : Int
  low : Int
  v : Value
  L : List (Msg × Value)
def toCl (x : Dc) : Cl := ⟨x.boot, x.low, x.L.map Prod.fst⟩
def dcC (x : Dc) : List Value := [.int .i64 x.boot, .int .i64 x.low, x.v]
def dcsC (l : List Dc) : List Value := (l.map dcC).flatten
theorem dcsC_len : ∀ l : List Dc, (dcsC l).length = 3 * l.length
  | [] => rfl
  | x :: l => by
    have h := dcsC_len l
    unfold dcsC at h ⊢
    rw [List.map_cons, List.flatten_cons, List.length_append, h, List.length_cons]
    show 3 + _ = _; omega
theorem dcsC_snoc (l : List Dc) (x : Dc) : dcsC (l ++ [x]) = dcsC l ++ dcC x := by simp [dcsC]
theorem dcsC_split (l : List Dc) (k : Nat) (hk : k < l.length) : dcsC l = dcsC (l.take k) ++ (dcC l[k] ++ dcsC (l.drop (k + 1))) := by
  have e : l = l.take k ++ (l[k] :: l.drop (k + 1)) := by rw [← List.drop_eq_getElem_cons hk, List.take_append_drop]
  conv => lhs; rw [e]
  unfold dcsC
  rw [List.map_append, List.flatten_append, List.map_cons, List.flatten_cons]
def DcOk (w : World) (x : Dc) : Prop := AnsR w x.v x.L
/-- the document's replies -/
def RefR (w : World) (v : Value) (l : List Dc) : Prop := (∃ A c, v = .slice A l.length c ∧ l.length ≤ c ∧ (l ≠ [] → ∃ g o cs, A = some ⟨g, o, none⟩ ∧ Bk w g 75 cs ∧ w.rangeAt g o (dcsC l))) ∧ ∀ x ∈ l, DcOk w x
theorem RefR.kp {w w' : World} {v : Value} {l : List Dc} {M : Nat → Prop} (h : RefR w v l) (hk : Kp M w w') (hm : ∀ g t cs, Bk w g t cs → t = 75 ∨ t = 32 ∨ t = 3 → ¬ M g) : RefR w' v l := by
  obtain ⟨⟨A, c, e, hc, h1⟩, h2⟩ := h
  refine ⟨⟨A, c, e, hc, fun hne => ?_⟩, fun x hx => (h2 x hx).kp hk fun g t cs hb ht => hm g t cs hb (.inr ht)⟩
  obtain ⟨g, o, cs, e1, hb, hr⟩ := h1 hne
  exact ⟨g, o, cs, e1, hb.kp hk (hm g _ cs hb (.inl rfl)), range_kp hr hk (hm g _ cs hb (.inl rfl))⟩
theorem RefR.no {w w' : World} {v : Value} {l : List Dc} (h : RefR w v l) (hk : Kp No w w') : RefR w' v l := h.kp hk fun _ _ _ _ _ m => m
theorem RefR.at_ {w : World} {v : Value} {l : List Dc} (h : RefR w v l) {k : Nat} (hk : k < l.length) : ∃ g o c, v = .slice (some ⟨g, o, none⟩) l.length c ∧ l.length ≤ c ∧ w.rangeAt g (o + k * 3) (dcC l[k]) ∧ DcOk w l[k] := by
  obtain ⟨⟨A, c, e, hc, h1⟩, h2⟩ := h
  obtain ⟨g, o, cs, rfl, hb, hr⟩ := h1 (fun e => by rw [e] at hk; simp at hk)
  refine ⟨g, o, c, e, hc, ?_, h2 _ (List.getElem_mem hk)⟩
  rw [dcsC_split l k hk] at hr
  exact range_mid hr (by rw [dcsC_len, List.length_take]; omega)
theorem own_ref {w : World} {B : Nat} {v : Value} {l : List Dc} (h : w.ownsRow B 75 3 v l.length (dcsC l)) (hs : ∀ x ∈ l, DcOk w x) : RefR w v l := by
  obtain ⟨A, c, e, hc, h2⟩ := own_range h
  refine ⟨⟨A, c, e, hc, fun hne => ?_⟩, hs⟩
  obtain ⟨g, cs, e1, hb, hr⟩ := h2 (List.length_pos_iff.2 hne)
  exact ⟨g, 0, cs, e1, hb, hr⟩
theorem Tryz.infoCl : (Tryz.prog.info? 75).map (fun i => (i.zero, i.size, i.bytes)) = some (some (.agg #[.int .i64 0, .int .i64 0, .slice none 0 0]), 3, 40) := by kernel_rfl
theorem Tryz.infoMs : (Tryz.prog.info? 32).map (fun i => (i.zero, i.size, i.bytes)) = some (some (.agg (mcells {} (.slice none 0 0)).toArray), 16, 152) := by kernel_rfl
end Go.Proofs.YtaipbikbapjmjaaGreat

/- The document's Len of replies by contract. No condition beyond what each theorem states. -/
namespace Go.Proofs.YtaipbikbapjmjaaGreat
open Go Go.RowKit Go.PlainAid

set_option maxRecDepth 100000 in
set_option maxHeartbeats 2000000 in
theorem dlen_any (v : Value) (D : List Dc) (k : Int) (W : World) (h : RefR W v D) (h8 : D.length = 8) :
    Calls Tryz.prog 20 #[.agg #[v], .int .i64 k] W fun e w' => e = .returned (.int .i64 ((lenS (D.map toCl) k : Nat) : Int)) ∧ Kp No W w' := by
  have HK := Lib.hid ((Kp.refl No W).alloc (.cells #[v] 42))
  by_cases hk : k < 0 ∨ 8 ≤ k
  · have HL := Lib.hid (show lenS (D.map toCl) k = 0 by unfold lenS; rw [if_pos hk])
    have hd : k < 0 ∨ 0 ≤ k ∧ 8 ≤ k := by omega
    clear hk h
    obtain ⟨z, hz⟩ : ∃ z, z = lenS (D.map toCl) k := ⟨_, rfl⟩
    rw [← hz]
    have HZ := Lib.hid (hz.trans HL.out)
    clear hz
    go_enter Tryz.func20, Tryz.ntmps20
    rcases hd with h1 | ⟨h1, h2⟩
    all_goals
      go_wp2
      go_ret
      exact ⟨by rw [HZ.out]; rfl, HK.out⟩
  · obtain ⟨n, rfl⟩ := Int.eq_ofNat_of_zero_le (show 0 ≤ k by omega)
    have hn : n < D.length := by omega
    obtain ⟨g, o, c, rfl, hc, hr, hok⟩ := h.at_ hn
    obtain ⟨⟨A2, c2, e2, _, _⟩, _⟩ := hok
    have HL := Lib.hid (show lenS (D.map toCl) n = (D[n]).L.length by
      unfold lenS
      rw [if_neg hk, Int.toNat_natCast, List.getD_eq_getElem?_getD, List.getElem?_map, List.getElem?_eq_getElem hn]
      simp [toCl])
    have z2 : W.cell? ⟨g, o + n * 3 + 2, none⟩ = some (D[n]).v := hr 2 _ rfl
    rw [e2] at z2
    have hg : g < W.heap.size := World.block_lt_of_cell? W _ z2
    have n0 : (0 : Int) ≤ (n : Int) := by omega
    have n1 : ¬ (n : Int) < 0 := by omega
    have n2 : ¬ 8 ≤ (n : Int) := by omega
    have n3 : (n : Int) < (D.length : Int) := by omega
    have H8 := Lib.hid h8
    obtain ⟨z, hz⟩ : ∃ z, z = lenS (D.map toCl) n := ⟨_, rfl⟩
    rw [← hz]
    have HZ := Lib.hid (hz.trans HL.out)
    clear hz hk h8 hr e2 h HL
    generalize (D[n]).L.length = ln at *
    go_enter Tryz.func20, Tryz.ntmps20
    go_wp2
    go_ret
    exact ⟨by rw [HZ.out]; rfl, HK.out⟩
end Go.Proofs.YtaipbikbapjmjaaGreat

/- The document's find by contract. No condition beyond what each theorem states. -/
namespace Go.Proofs.YtaipbikbapjmjaaGreat
open Go Go.RowKit Go.PlainAid

def FindR (x : Dc) (seq : Int) (W : World) (e : Ending) (w' : World) : Prop :=
  Kp No W w' ∧ ((∃ y ∈ x.L, findS (toCl x) seq = some y.1 ∧ e = .returned (.tuple #[.agg (mcells y.1 y.2).toArray, .bool true])) ∨
    (findS (toCl x) seq = none ∧ e = .returned (.tuple #[.agg (mcells {} (.slice none 0 0)).toArray, .bool false])))
theorem find_at {L : List (Msg × Value)} {seq : Int} {boot low : Int} {k : Nat} (hk : k < L.length) (h : ∀ j (hj : j < k), (L[j]'(by omega)).1.seq ≠ seq) (he : L[k].1.seq = seq) : findS ⟨boot, low, L.map Prod.fst⟩ seq = some L[k].1 := by
  unfold findS
  have e : L.map Prod.fst = (L.take k).map Prod.fst ++ (L[k].1 :: (L.drop (k + 1)).map Prod.fst) := by
    rw [← List.map_cons, ← List.map_append, ← List.drop_eq_getElem_cons hk, List.take_append_drop]
  simp only
  rw [e, List.find?_append, List.find?_eq_none.2 (fun a ha => ?_), Option.none_or, List.find?_cons]
  · simp [he]
  · rw [List.mem_map] at ha
    obtain ⟨y, hy, rfl⟩ := ha
    obtain ⟨j, hj, rfl⟩ := List.getElem_of_mem hy
    rw [List.length_take] at hj
    rw [List.getElem_take]
    have := h j (by omega)
    simpa using this
theorem find_no {L : List (Msg × Value)} {seq boot low : Int} (h : ∀ j (hj : j < L.length), (L[j]).1.seq ≠ seq) : findS ⟨boot, low, L.map Prod.fst⟩ seq = none := by
  unfold findS
  rw [List.find?_eq_none]
  intro a ha
  rw [List.mem_map] at ha
  obtain ⟨y, hy, rfl⟩ := ha
  obtain ⟨j, hj, rfl⟩ := List.getElem_of_mem hy
  have := h j hj
  simpa using this
set_option maxRecDepth 100000 in
set_option maxHeartbeats 8000000 in
theorem dfind_any (x : Dc) (seq : Int) (W : World) (h : DcOk W x) (hl : x.L.length ≤ 4294967296) : Calls Tryz.prog 27 #[.agg (dcC x).toArray, .int .i64 seq] W (FindR x seq W) := by
  obtain ⟨L, hL⟩ : ∃ L, L = x.L := ⟨_, rfl⟩
  have HH := Lib.hid (show AnsR W x.v L from by rw [hL]; exact h)
  have HX := Lib.hid (show x = ⟨x.boot, x.low, x.v, L⟩ by rw [hL])
  rw [← hL] at hl
  have HLL := Lib.hid hL
  obtain ⟨⟨A, c, hv, hc, _⟩, _⟩ := HH.out
  have HV := Lib.hid hv
  unfold dcC
  rw [hv]
  clear hL h hv
  have HK := Lib.hid (show Kp No W ((W.alloc (.cells #[.int .i64 x.boot, .int .i64 x.low, .slice A L.length c] 75)).alloc (.cells #[.int .i64 0, .int .i64 0, .int .i64 0, .int .i64 0, .int .i64 0, .int .i64 0, .int .i64 0, .string ⟨#[]⟩, .int .i64 0, .int .i64 0, .int .i64 0, .bool false, .int .i64 0, .slice none 0 0, .int .i64 0, .int .i64 0] 32)) from ((Kp.refl No W).alloc _).alloc _)
  have HB := Lib.hid (show Bk ((W.alloc (.cells #[.int .i64 x.boot, .int .i64 x.low, .slice A L.length c] 75)).alloc (.cells #[.int .i64 0, .int .i64 0, .int .i64 0, .int .i64 0, .int .i64 0, .int .i64 0, .int .i64 0, .string ⟨#[]⟩, .int .i64 0, .int .i64 0, .int .i64 0, .bool false, .int .i64 0, .slice none 0 0, .int .i64 0, .int .i64 0] 32)) (W.heap.size + 1) 32 (mcells ({} : Msg) (.slice none 0 0)) from Bk.new' (by simp) rfl)
  go_enter Tryz.func27, Tryz.ntmps27
  go_wp2
  go_loop [6] (fun i => ∃ k : Nat, k ≤ L.length ∧ i = .int .i64 k ∧ ∀ j (hj : j < k) (hj2 : j < L.length), (L[j]).1.seq ≠ seq) (fun i => L.length - (intOf i).toNat)
  case atStart => exact ⟨0, Nat.zero_le _, rfl, fun j hj => by omega⟩
  case round =>
  obtain ⟨k, hk, rfl, hno⟩ := hrel
  have HNO := Lib.hid hno; clear hno
  by_cases hlt : k < L.length
  · obtain ⟨g, o, c2, e, _, hr, hs⟩ := HH.out.at_ hlt
    have e := HV.out.symm.trans e
    injection e with e1 _ e2
    subst e1; subst e2
    obtain ⟨y, hy⟩ : ∃ y, y = L[k] := ⟨_, rfl⟩
    rw [← hy] at hr hs
    have HR := Lib.hid hr
    have z4 : W.cell? ⟨g, o + k * 16 + 4, none⟩ = some (.int .i64 y.1.seq) := hr 4 _ rfl
    have hg : g < W.heap.size := World.block_lt_of_cell? W _ z4
    have hk0 : (0 : Int) ≤ (k : Int) := by omega
    have hk1 : (k : Int) < (L.length : Int) := by omega
    clear hr
    by_cases he : y.1.seq = seq
    · have d0 : (y.1.seq == seq) = true := beq_iff_eq.2 he
      have HF := Lib.hid (show findS (toCl x) seq = some y.1 from by rw [HX.out, hy]; exact find_at hlt (fun j hj => HNO.out j hj (by omega)) (by rw [← hy]; exact he))
      have HM := Lib.hid (show y ∈ x.L from by rw [hy, ← HLL.out]; exact List.getElem_mem hlt)
      clear he hy
      obtain ⟨A2, c2, hsv, _⟩ := hs
      obtain ⟨m, sv⟩ := y
      simp only at hsv HR HF HM z4 d0
      obtain rfl := hsv
      obtain ⟨C, hC⟩ : ∃ C, C = mcells m (.slice A2 m.stamp.length c2) := ⟨_, rfl⟩
      rw [← hC] at HR
      have hCl : C.length = 16 := by rw [hC]; rfl
      have hC1 : C.toArray.all (·.oneCell') = true := by rw [hC]; simp [mcells, Value.oneCell']
      have hi1 : Hid ((Tryz.prog.info? 32).map (·.size) = some C.length) := Lib.hid (by rw [hCl]; kernel_rfl)
      have hi2 : Hid ((Tryz.prog.info? 32).map (·.size) = some C.toArray.size) := Lib.hid (by rw [List.size_toArray, hCl]; kernel_rfl)
      have h1c : Hid (C.toArray.all (·.oneCell') = true) := Lib.hid hC1
      have HUH := Lib.hid (Tryz.underlying32)
      have HRW := Lib.hid (show World.rangeAt ((W.alloc (.cells #[.int .i64 x.boot, .int .i64 x.low, .slice (some ⟨g, o, none⟩) L.length c] 75)).alloc (.cells #[.int .i64 0, .int .i64 0, .int .i64 0, .int .i64 0, .int .i64 0, .int .i64 0, .int .i64 0, .string ⟨#[]⟩, .int .i64 0, .int .i64 0, .int .i64 0, .bool false, .int .i64 0, .slice none 0 0, .int .i64 0, .int .i64 0] 32)) g (o + k * 16) C from range_kp HR.out HK.out (fun m => m))
      have HTH := Lib.hid (show World.there ((W.alloc (.cells #[.int .i64 x.boot, .int .i64 x.low, .slice (some ⟨g, o, none⟩) L.length c] 75)).alloc (.cells #[.int .i64 0, .int .i64 0, .int .i64 0, .int .i64 0, .int .i64 0, .int .i64 0, .int .i64 0, .string ⟨#[]⟩, .int .i64 0, .int .i64 0, .int .i64 0, .bool false, .int .i64 0, .slice none 0 0, .int .i64 0, .int .i64 0] 32)) (W.heap.size + 1) 0 C.toArray.size from HB.out.there 0 _ (by rw [List.size_toArray, hCl]; simp [mcells]))
      have HBS := Lib.hid (show Bk (World.setCells ((W.alloc (.cells #[.int .i64 x.boot, .int .i64 x.low, .slice (some ⟨g, o, none⟩) L.length c] 75)).alloc (.cells #[.int .i64 0, .int .i64 0, .int .i64 0, .int .i64 0, .int .i64 0, .int .i64 0, .int .i64 0, .string ⟨#[]⟩, .int .i64 0, .int .i64 0, .int .i64 0, .bool false, .int .i64 0, .slice none 0 0, .int .i64 0, .int .i64 0] 32)) (W.heap.size + 1) 0 C) (W.heap.size + 1) 32 C from by
        have h := Bk.sets C 0 HB.out (by rw [hCl]; simp [mcells])
        rw [List.take_zero, List.nil_append, List.drop_of_length_le (by rw [hCl]; simp [mcells]), List.append_nil] at h
        exact h)
      have HKS := Lib.hid (show Kp No W (World.setCells ((W.alloc (.cells #[.int .i64 x.boot, .int .i64 x.low, .slice (some ⟨g, o, none⟩) L.length c] 75)).alloc (.cells #[.int .i64 0, .int .i64 0, .int .i64 0, .int .i64 0, .int .i64 0, .int .i64 0, .int .i64 0, .string ⟨#[]⟩, .int .i64 0, .int .i64 0, .int .i64 0, .bool false, .int .i64 0, .slice none 0 0, .int .i64 0, .int .i64 0] 32)) (W.heap.size + 1) 0 C) from Kp.sets _ 0 HK.out (.inr (by omega)))
      have HCS := Lib.hid hC
      clear hC hCl hC1 HB HK
      go_wp2_with (first
        | (refine wpList_load_mid rfl _ _ rfl g (o + k * 16) rfl C _ HRW.out HUH.out rfl hi1.out ?_)
        | (refine wpList_store_mid rfl _ _ _ rfl (W.heap.size + 1) 0 C.toArray rfl rfl HTH.out hi2.out h1c.out ?_))
      have B9 := HBS.out
      have k9 := HKS.out
      clear HBS HKS HTH HRW
      generalize World.setCells _ (W.heap.size + 1) 0 C = w9 at *
      rw [HCS.out] at B9
      have x0 := B9.cell 0
      have x1 := B9.cell 1
      have x2 := B9.cell 2
      have x3 := B9.cell 3
      have x4 := B9.cell 4
      have x5 := B9.cell 5
      have x6 := B9.cell 6
      have x7 := B9.cell 7
      have x8 := B9.cell 8
      have x9 := B9.cell 9
      have x10 := B9.cell 10
      have x11 := B9.cell 11
      have x12 := B9.cell 12
      have x13 := B9.cell 13
      have x14 := B9.cell 14
      have x15 := B9.cell 15
      simp only [mcells, List.getElem?_cons_zero, List.getElem?_cons_succ] at x0 x1 x2 x3 x4 x5 x6 x7 x8 x9 x10 x11 x12 x13 x14 x15
      clear B9
      refine bodyPost_ret (v := .tuple #[.agg (mcells m (.slice A2 m.stamp.length c2)).toArray, .bool true]) (by simp [results, Tryz.results27, go_sem, x0, x1, x2, x3, x4, x5, x6, x7, x8, x9, x10, x11, x12, x13, x14, x15, mcells]) rfl ?_
      exact ⟨k9, .inl ⟨_, HM.out, HF.out, rfl⟩⟩
    · have d0 : (y.1.seq == seq) = false := by rw [beq_eq_false_iff_ne]; exact he
      have HN2 := Lib.hid (show ∀ j (hj : j < k + 1) (hj2 : j < L.length), (L[j]).1.seq ≠ seq from fun j hj hj2 => by
        by_cases e : j = k
        · subst e; rw [← hy]; exact he
        · exact HNO.out j (by omega) hj2)
      clear he hy
      go_wp2
      go_round
      case rel => exact ⟨k + 1, by omega, by go_num, HN2.out⟩
      case measure => simp [intOf]; omega
  · have hk1 : ¬ (k : Int) < (L.length : Int) := by omega
    have HF := Lib.hid (show findS (toCl x) seq = none from by rw [HX.out]; exact find_no (fun j hj => HNO.out j (by have hj : j < L.length := hj; omega) hj))
    obtain ⟨C, hC⟩ : ∃ C, C = mcells ({} : Msg) (.slice none 0 0) := ⟨_, rfl⟩
    have hCl : C.length = 16 := by rw [hC]; rfl
    have hC1 : C.toArray.all (·.oneCell') = true := by rw [hC]; simp [mcells, Value.oneCell']
    have HAZ : Hid ((.agg #[.int .i64 0, .int .i64 0, .int .i64 0, .int .i64 0, .int .i64 0, .int .i64 0, .int .i64 0, .string ⟨#[]⟩, .int .i64 0, .int .i64 0, .int .i64 0, .bool false, .int .i64 0, .slice none 0 0, .int .i64 0, .int .i64 0] : Value) = .agg C.toArray) := Lib.hid (by rw [hC]; rfl)
    have hi2 : Hid ((Tryz.prog.info? 32).map (·.size) = some C.toArray.size) := Lib.hid (by rw [List.size_toArray, hCl]; kernel_rfl)
    have h1c : Hid (C.toArray.all (·.oneCell') = true) := Lib.hid hC1
    have HTH := Lib.hid (show World.there ((W.alloc (.cells #[.int .i64 x.boot, .int .i64 x.low, .slice A L.length c] 75)).alloc (.cells #[.int .i64 0, .int .i64 0, .int .i64 0, .int .i64 0, .int .i64 0, .int .i64 0, .int .i64 0, .string ⟨#[]⟩, .int .i64 0, .int .i64 0, .int .i64 0, .bool false, .int .i64 0, .slice none 0 0, .int .i64 0, .int .i64 0] 32)) (W.heap.size + 1) 0 C.toArray.size from HB.out.there 0 _ (by rw [List.size_toArray, hCl]; simp [mcells]))
    have HBS := Lib.hid (show Bk (World.setCells ((W.alloc (.cells #[.int .i64 x.boot, .int .i64 x.low, .slice A L.length c] 75)).alloc (.cells #[.int .i64 0, .int .i64 0, .int .i64 0, .int .i64 0, .int .i64 0, .int .i64 0, .int .i64 0, .string ⟨#[]⟩, .int .i64 0, .int .i64 0, .int .i64 0, .bool false, .int .i64 0, .slice none 0 0, .int .i64 0, .int .i64 0] 32)) (W.heap.size + 1) 0 C) (W.heap.size + 1) 32 C from by
      have h := Bk.sets C 0 HB.out (by rw [hCl]; simp [mcells])
      rw [List.take_zero, List.nil_append, List.drop_of_length_le (by rw [hCl]; simp [mcells]), List.append_nil] at h
      exact h)
    have HKS := Lib.hid (show Kp No W (World.setCells ((W.alloc (.cells #[.int .i64 x.boot, .int .i64 x.low, .slice A L.length c] 75)).alloc (.cells #[.int .i64 0, .int .i64 0, .int .i64 0, .int .i64 0, .int .i64 0, .int .i64 0, .int .i64 0, .string ⟨#[]⟩, .int .i64 0, .int .i64 0, .int .i64 0, .bool false, .int .i64 0, .slice none 0 0, .int .i64 0, .int .i64 0] 32)) (W.heap.size + 1) 0 C) from Kp.sets _ 0 HK.out (.inr (by omega)))
    have HCS := Lib.hid hC
    clear hC hCl hC1 HB HK
    go_wp2_with (refine wpList_store_mid rfl _ _ _ rfl (W.heap.size + 1) 0 C.toArray rfl HAZ.out HTH.out hi2.out h1c.out ?_)
    have B9 := HBS.out
    have k9 := HKS.out
    clear HBS HKS HTH
    generalize World.setCells _ (W.heap.size + 1) 0 C = w9 at *
    rw [HCS.out] at B9
    have x0 := B9.cell 0
    have x1 := B9.cell 1
    have x2 := B9.cell 2
    have x3 := B9.cell 3
    have x4 := B9.cell 4
    have x5 := B9.cell 5
    have x6 := B9.cell 6
    have x7 := B9.cell 7
    have x8 := B9.cell 8
    have x9 := B9.cell 9
    have x10 := B9.cell 10
    have x11 := B9.cell 11
    have x12 := B9.cell 12
    have x13 := B9.cell 13
    have x14 := B9.cell 14
    have x15 := B9.cell 15
    simp only [mcells, List.getElem?_cons_zero, List.getElem?_cons_succ] at x0 x1 x2 x3 x4 x5 x6 x7 x8 x9 x10 x11 x12 x13 x14 x15
    clear B9
    refine bodyPost_ret (v := .tuple #[.agg (mcells ({} : Msg) (.slice none 0 0)).toArray, .bool false]) (by simp [results, Tryz.results27, go_sem, x0, x1, x2, x3, x4, x5, x6, x7, x8, x9, x10, x11, x12, x13, x14, x15, mcells]) rfl ?_
    exact ⟨k9, .inr ⟨HF.out, rfl⟩⟩
end Go.Proofs.YtaipbikbapjmjaaGreat
