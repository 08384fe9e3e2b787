/- Several texts of this claim in one. No condition beyond what each theorem states. -/
import Derived.Test.YtaipbikbapjmjaaGreatB04
import Derived.Test.YtaipbikbapjmjaaGreatB05
import Derived.Test.YtaipbikbapjmjaaGreatB07
/- A message's sixteen cells. No condition beyond what each theorem states. -/
namespace Go.Proofs.YtaipbikbapjmjaaGreat
open Go

theorem cells16 {w : World} {g : Nat} {m : Msg} {sv : Value} (h : Bk w g 32 (mcells m sv)) : w.cell? ⟨g, 0, none⟩ = some (.int .i64 m.kind) ∧ w.cell? ⟨g, 1, none⟩ = some (.int .i64 m.from_) ∧ w.cell? ⟨g, 2, none⟩ = some (.int .i64 m.dest) ∧ w.cell? ⟨g, 3, none⟩ = some (.int .i64 m.boot) ∧ w.cell? ⟨g, 4, none⟩ = some (.int .i64 m.seq) ∧ w.cell? ⟨g, 5, none⟩ = some (.int .i64 m.low) ∧ w.cell? ⟨g, 6, none⟩ = some (.int .i64 m.verb) ∧ w.cell? ⟨g, 7, none⟩ = some (.string ⟨m.path.toArray⟩) ∧ w.cell? ⟨g, 8, none⟩ = some (.int .i64 m.mode) ∧ w.cell? ⟨g, 9, none⟩ = some (.int .i64 m.term) ∧ w.cell? ⟨g, 10, none⟩ = some (.int .i64 m.id) ∧ w.cell? ⟨g, 11, none⟩ = some (.bool m.fresh) ∧ w.cell? ⟨g, 12, none⟩ = some (.int .i64 m.code) ∧ w.cell? ⟨g, 13, none⟩ = some (sv) ∧ w.cell? ⟨g, 14, none⟩ = some (.int .i64 m.origin) ∧ w.cell? ⟨g, 15, none⟩ = some (.int .i64 m.number) :=
  ⟨h.cell 0, h.cell 1, h.cell 2, h.cell 3, h.cell 4, h.cell 5, h.cell 6, h.cell 7, h.cell 8, h.cell 9, h.cell 10, h.cell 11, h.cell 12, h.cell 13, h.cell 14, h.cell 15⟩
end Go.Proofs.YtaipbikbapjmjaaGreat

/- Replies in memory: places and clients as stretches of one block. No condition beyond what each theorem states. -/
namespace Go.Proofs.YtaipbikbapjmjaaGreat
open Go Go.RowKit Go.PlainAid

/-- a place, with the value of its answer's stamp -/
def slC (x : Sl × Value) : List Value := .int .i64 x.1.seq :: mcells x.1.msg x.2
def slsC (l : List (Sl × Value)) : List Value := (l.map slC).flatten
def clC (boot low : Int) (l : List (Sl × Value)) : List Value := .int .i64 boot :: .int .i64 low :: slsC l
theorem slC_len (x : Sl × Value) : (slC x).length = 17 := rfl
theorem slsC_len : ∀ l : List (Sl × Value), (slsC l).length = 17 * l.length
  | [] => rfl
  | x :: l => by
    have h := slsC_len l
    unfold slsC at h ⊢
    rw [List.map_cons, List.flatten_cons, List.length_append, h, slC_len, List.length_cons]; omega
theorem clC_len (boot low : Int) (l : List (Sl × Value)) (h : l.length = 8) : (clC boot low l).length = 138 := by
  unfold clC; rw [List.length_cons, List.length_cons, slsC_len, h]
theorem slsC_append (a b : List (Sl × Value)) : slsC (a ++ b) = slsC a ++ slsC b := by simp [slsC]
/-- place k stands between those ahead of it and those behind it -/
theorem slsC_split (l : List (Sl × Value)) (k : Nat) (hk : k < l.length) : slsC l = slsC (l.take k) ++ (slC l[k] ++ slsC (l.drop (k + 1))) := by
  have e : l = l.take k ++ (l[k] :: l.drop (k + 1)) := by rw [← List.drop_eq_getElem_cons hk, List.take_append_drop]
  conv => lhs; rw [e]
  rw [slsC_append]
  unfold slsC
  rw [List.map_cons, List.flatten_cons]
theorem slsC_set (l : List (Sl × Value)) (k : Nat) (hk : k < l.length) (x : Sl × Value) : slsC (l.set k x) = slsC (l.take k) ++ (slC x ++ slsC (l.drop (k + 1))) := by
  rw [List.set_eq_take_append_cons_drop, if_pos hk, slsC_append]
  unfold slsC
  rw [List.map_cons, List.flatten_cons]
/-- a stretch of a block -/
theorem Bk.mid {w : World} {g o : Nat} {t : TypeId} {p m q : List Value} (h : Bk w g t (p ++ (m ++ q))) (ho : p.length = o) : w.rangeAt g o m := fun j v hv => by
  subst ho
  have hj := (List.getElem?_eq_some_iff.1 hv).1
  rw [h.cell, List.getElem?_append_right (by omega), List.getElem?_append_left (by omega), show p.length + j - p.length = j by omega]
  exact hv
theorem Bk.midSets {w : World} {g o : Nat} {t : TypeId} {p m q vs : List Value} (h : Bk w g t (p ++ (m ++ q))) (ho : p.length = o) (hl : vs.length = m.length) : Bk (w.setCells g o vs) g t (p ++ (vs ++ q)) := by
  subst ho
  have h2 := Bk.sets vs p.length h (by rw [List.length_append, List.length_append]; omega)
  rw [List.take_left' rfl, List.append_assoc] at h2
  have e : (p ++ (m ++ q)).drop (p.length + vs.length) = q := by
    rw [hl, ← List.append_assoc, List.drop_left' (by rw [List.length_append])]
  rwa [e] at h2
theorem Bk.midThere {w : World} {g o n : Nat} {t : TypeId} {p m q : List Value} (h : Bk w g t (p ++ (m ++ q))) (ho : p.length = o) (hn : n ≤ m.length) : w.there g o n :=
  h.there o n (by rw [List.length_append, List.length_append]; omega)
theorem Bk.midSet {w : World} {g o j : Nat} {t : TypeId} {p m q : List Value} (h : Bk w g t (p ++ (m ++ q))) (ho : p.length = o) (hj : j < m.length) (v : Value) : Bk (w.setCell ⟨g, o + j, none⟩ v) g t (p ++ (m.set j v ++ q)) := by
  subst ho
  have h2 := h.set_ (p.length + j) v
  rwa [List.set_append_right _ _ (by omega), show p.length + j - p.length = j by omega, List.set_append_left _ _ hj] at h2
/-- a client: its boot, its low, its places -/
abbrev CV := Int × Int × List (Sl × Value)
def cvC (x : CV) : List Value := clC x.1 x.2.1 x.2.2
def rpC (cs : List CV) : List Value := (cs.map cvC).flatten
theorem rpC_len : ∀ cs : List CV, (∀ x ∈ cs, x.2.2.length = 8) → (rpC cs).length = 138 * cs.length
  | [], _ => rfl
  | x :: l, hx => by
    have h := rpC_len l fun y hy => hx y (List.mem_cons_of_mem _ hy)
    unfold rpC at h ⊢
    rw [List.map_cons, List.flatten_cons, List.length_append, h, cvC, clC_len _ _ _ (hx x (List.mem_cons_self ..)), List.length_cons]; omega
theorem rpC_append (a b : List CV) : rpC (a ++ b) = rpC a ++ rpC b := by simp [rpC]
theorem rpC_split (l : List CV) (k : Nat) (hk : k < l.length) : rpC l = rpC (l.take k) ++ (cvC l[k] ++ rpC (l.drop (k + 1))) := by
  have e : l = l.take k ++ (l[k] :: l.drop (k + 1)) := by rw [← List.drop_eq_getElem_cons hk, List.take_append_drop]
  conv => lhs; rw [e]
  rw [rpC_append]
  unfold rpC
  rw [List.map_cons, List.flatten_cons]
theorem rpC_set (l : List CV) (k : Nat) (hk : k < l.length) (x : CV) : rpC (l.set k x) = rpC (l.take k) ++ (cvC x ++ rpC (l.drop (k + 1))) := by
  rw [List.set_eq_take_append_cons_drop, if_pos hk, rpC_append]
  unfold rpC
  rw [List.map_cons, List.flatten_cons]
/-- no place is taken -/
def noSl : List (Sl × Value) := List.replicate 8 ({}, .slice none 0 0)
def newCV (k : Nat) : List CV := List.replicate k (0, 1, noSl) ++ List.replicate (8 - k) (0, 0, noSl)
theorem newCV_len (k : Nat) (hk : k ≤ 8) : (newCV k).length = 8 := by simp [newCV]; omega
theorem newCV_ok (k : Nat) : ∀ x ∈ newCV k, x.2.2.length = 8 := fun x hx => by
  unfold newCV at hx
  rw [List.mem_append, List.mem_replicate, List.mem_replicate] at hx
  rcases hx with ⟨_, rfl⟩ | ⟨_, rfl⟩ <;> rfl
theorem newCV_get (k : Nat) (hk : k < 8) : (newCV k)[k]'(by rw [newCV_len k (by omega)]; exact hk) = (0, 0, noSl) := by
  unfold newCV
  rw [List.getElem_append_right (by simp), List.getElem_replicate]
theorem newCV_step (k : Nat) (hk : k < 8) : (newCV k).set k (0, 1, noSl) = newCV (k + 1) := by
  unfold newCV
  rw [List.set_append_right _ _ (by simp), List.length_replicate, Nat.sub_self, show 8 - k = (8 - (k + 1)) + 1 by omega, List.replicate_succ, List.set_cons_zero, List.replicate_succ', List.append_assoc]
  rfl
end Go.Proofs.YtaipbikbapjmjaaGreat

/- replies.client's turn by contract. No condition beyond what each theorem states. -/
namespace Go.Proofs.YtaipbikbapjmjaaGreat
open Go Go.RowKit Go.PlainAid

set_option maxRecDepth 100000 in
set_option maxHeartbeats 4000000 in
theorem turn_old (b o : Nat) (T : TypeId) (p q : List Value) (boot low : Int) (l : List (Sl × Value)) (m : Msg) (A : Option Addr) (c : Nat) (W : World) (hb : Bk W b T (p ++ (clC boot low l ++ q))) (ho : p.length = o) (h1 : m.boot < boot) :
    Calls Tryz.prog 36 #[.pointer (some ⟨b, o, none⟩), .agg (mcells m (.slice A m.stamp.length c)).toArray] W fun e w' => e = .returned (.bool false) ∧ Kp No W w' := by
  have kA : Kp No W (W.alloc (.cells (mcells m (.slice A m.stamp.length c)).toArray 32)) := (Kp.refl No W).alloc _
  have hb2 := hb.no kA
  have z0 : (W.alloc (.cells (mcells m (.slice A m.stamp.length c)).toArray 32)).cell? ⟨b, o, none⟩ = some (.int .i64 boot) := hb2.mid ho 0 _ rfl
  have z1 : (W.alloc (.cells (mcells m (.slice A m.stamp.length c)).toArray 32)).cell? ⟨b, o + 1, none⟩ = some (.int .i64 low) := hb2.mid ho 1 _ rfl
  have y0 : ((W.alloc (.cells (mcells m (.slice A m.stamp.length c)).toArray 32)).alloc (.cells #[.int .i64 boot, .int .i64 low] 61)).cell? ⟨b, o, none⟩ = some (.int .i64 boot) := (hb2.alloc _).mid ho 0 _ rfl
  have HK := Lib.hid kA
  clear kA hb hb2 ho
  unfold mcells at z0 z1 y0 HK ⊢
  go_enter Tryz.func36, Tryz.ntmps36
  go_wp2
  go_region
  all_goals
    go_wp2
    go_ret
    exact ⟨rfl, (HK.out.alloc _).drew⟩
set_option maxRecDepth 100000 in
set_option maxHeartbeats 4000000 in
theorem turn_same (b o : Nat) (T : TypeId) (p q : List Value) (low : Int) (l : List (Sl × Value)) (m : Msg) (A : Option Addr) (c : Nat) (W : World) (hb : Bk W b T (p ++ (clC m.boot low l ++ q))) (ho : p.length = o) (h1 : m.low ≤ low) :
    Calls Tryz.prog 36 #[.pointer (some ⟨b, o, none⟩), .agg (mcells m (.slice A m.stamp.length c)).toArray] W fun e w' => e = .returned (.bool true) ∧ Kp No W w' := by
  have kA : Kp No W (W.alloc (.cells (mcells m (.slice A m.stamp.length c)).toArray 32)) := (Kp.refl No W).alloc _
  have hb2 := hb.no kA
  have z0 : (W.alloc (.cells (mcells m (.slice A m.stamp.length c)).toArray 32)).cell? ⟨b, o, none⟩ = some (.int .i64 m.boot) := hb2.mid ho 0 _ rfl
  have z1 : (W.alloc (.cells (mcells m (.slice A m.stamp.length c)).toArray 32)).cell? ⟨b, o + 1, none⟩ = some (.int .i64 low) := hb2.mid ho 1 _ rfl
  have y0 : ((W.alloc (.cells (mcells m (.slice A m.stamp.length c)).toArray 32)).alloc (.cells #[.int .i64 m.boot, .int .i64 low] 61)).cell? ⟨b, o, none⟩ = some (.int .i64 m.boot) := (hb2.alloc _).mid ho 0 _ rfl
  have y1 : ((W.alloc (.cells (mcells m (.slice A m.stamp.length c)).toArray 32)).alloc (.cells #[.int .i64 m.boot, .int .i64 low] 61)).cell? ⟨b, o + 1, none⟩ = some (.int .i64 low) := (hb2.alloc _).mid ho 1 _ rfl
  have h2 : ¬ m.boot < m.boot := by omega
  have h3 : max low m.low = low := by omega
  have h4 : ¬ low < m.low := by omega
  have HK := Lib.hid kA
  clear kA hb hb2 ho
  unfold mcells at z0 z1 y0 y1 HK ⊢
  go_enter Tryz.func36, Tryz.ntmps36
  go_wp2
  go_region
  go_wp2
  go_region
  go_wp2
  go_region
  all_goals
    go_wp2
    go_ret
    exact ⟨rfl, (HK.out.alloc _).drew.drew.drew⟩
/-- place k of a client within a block -/
theorem clC_split (p q : List Value) (boot low : Int) (l : List (Sl × Value)) (k : Nat) (hk : k < l.length) : p ++ (clC boot low l ++ q) = (p ++ (.int .i64 boot :: .int .i64 low :: slsC (l.take k))) ++ (slC l[k] ++ (slsC (l.drop (k + 1)) ++ q)) := by
  unfold clC
  conv => lhs; rw [slsC_split l k hk]
  simp
theorem clC_set (p q : List Value) (boot low : Int) (l : List (Sl × Value)) (k : Nat) (hk : k < l.length) (x : Sl × Value) : p ++ (clC boot low (l.set k x) ++ q) = (p ++ (.int .i64 boot :: .int .i64 low :: slsC (l.take k))) ++ (slC x ++ (slsC (l.drop (k + 1)) ++ q)) := by
  unfold clC
  rw [slsC_set l k hk x]
  simp
theorem clC_pre (p : List Value) (boot low : Int) (l : List (Sl × Value)) (k o : Nat) (hk : k < l.length) (ho : p.length = o) : (p ++ (.int .i64 boot :: .int .i64 low :: slsC (l.take k))).length = o + 2 + k * 17 := by
  rw [List.length_append, List.length_cons, List.length_cons, slsC_len, List.length_take, ho]; omega
/-- places of numbers below low are none -/
def cutV (low : Int) (l : List (Sl × Value)) : List (Sl × Value) := l.map fun x => if x.1.seq < low then ({}, .slice none 0 0) else x
def cutK (low : Int) (l : List (Sl × Value)) (k : Nat) : List (Sl × Value) := cutV low (l.take k) ++ l.drop k
theorem cutK_len (low : Int) (l : List (Sl × Value)) (k : Nat) (hk : k ≤ l.length) : (cutK low l k).length = l.length := by
  unfold cutK cutV; rw [List.length_append, List.length_map, List.length_take, List.length_drop]; omega
theorem cutK_get (low : Int) (l : List (Sl × Value)) (k : Nat) (hk : k < l.length) : (cutK low l k)[k]'(by rw [cutK_len low l k (by omega)]; exact hk) = l[k] := by
  unfold cutK cutV
  rw [List.getElem_append_right (by rw [List.length_map, List.length_take]; omega), List.getElem_drop]
  congr 1
  rw [List.length_map, List.length_take]; omega
theorem cutK_step (low : Int) (l : List (Sl × Value)) (k : Nat) (hk : k < l.length) : (cutK low l k).set k (if l[k].1.seq < low then ({}, .slice none 0 0) else l[k]) = cutK low l (k + 1) := by
  unfold cutK cutV
  have e : (List.map (fun x => if x.1.seq < low then (({}, .slice none 0 0) : Sl × Value) else x) (l.take k)).length = k := by rw [List.length_map, List.length_take]; omega
  rw [List.set_append_right _ _ (by omega), e, Nat.sub_self, List.drop_eq_getElem_cons hk, List.set_cons_zero, List.take_succ_eq_append_getElem hk, List.map_append, List.append_assoc]
  rfl
end Go.Proofs.YtaipbikbapjmjaaGreat

/- replies.client's turn to a later era by contract. No condition beyond what each theorem states. -/
namespace Go.Proofs.YtaipbikbapjmjaaGreat
open Go Go.RowKit Go.PlainAid

set_option maxRecDepth 100000 in
set_option maxHeartbeats 8000000 in
theorem turn_later (b o : Nat) (T : TypeId) (p q : List Value) (low : Int) (l : List (Sl × Value)) (m : Msg) (A : Option Addr) (c : Nat) (W : World) (hl8 : l.length = 8) (hb : Bk W b T (p ++ (clC m.boot low l ++ q))) (ho : p.length = o) (h1 : low < m.low) :
    Calls Tryz.prog 36 #[.pointer (some ⟨b, o, none⟩), .agg (mcells m (.slice A m.stamp.length c)).toArray] W fun e w' => e = .returned (.bool true) ∧ Bk w' b T (p ++ (clC m.boot m.low (cutV m.low l) ++ q)) ∧ Kp (One b) W w' := by
  have hbl := hb.lt
  have wf := hb.frozen
  have v0 : W.cell? ⟨b, o, none⟩ = some (.int .i64 m.boot) := hb.mid ho 0 _ rfl
  have v1 : W.cell? ⟨b, o + 1, none⟩ = some (.int .i64 low) := hb.mid ho 1 _ rfl
  have HB0 := Lib.hid (show ∀ X Y, Bk (((((W.setCell ⟨b, o, none⟩ (.int .i64 m.boot)).setCell ⟨b, o + 1, none⟩ (.int .i64 m.low)).alloc X).alloc Y).drew.drew.drew) b T (p ++ (clC m.boot m.low (cutK m.low l 0) ++ q)) from fun X Y => by
    have e0 : cutK m.low l 0 = l := by simp [cutK, cutV]
    rw [e0]
    exact ((((hb.midSet (j := 0) ho (by simp [clC]) _).midSet (j := 1) ho (by simp [clC]) _).alloc X).alloc Y).no ((Kp.refl No _).drew.drew.drew))
  have HK0 := Lib.hid (show ∀ X Y, Kp (One b) W (((((W.setCell ⟨b, o, none⟩ (.int .i64 m.boot)).setCell ⟨b, o + 1, none⟩ (.int .i64 m.low)).alloc X).alloc Y).drew.drew.drew) from fun X Y => ((((((Kp.refl (One b) W).set (.inl rfl) o _).set (.inl rfl) (o + 1) _).alloc X).alloc Y).drew.drew.drew))
  have kA : Kp No W (W.alloc (.cells (mcells m (.slice A m.stamp.length c)).toArray 32)) := (Kp.refl No W).alloc _
  have hb2 := hb.no kA
  have z0 : (W.alloc (.cells (mcells m (.slice A m.stamp.length c)).toArray 32)).cell? ⟨b, o, none⟩ = some (.int .i64 m.boot) := hb2.mid ho 0 _ rfl
  have z1 : (W.alloc (.cells (mcells m (.slice A m.stamp.length c)).toArray 32)).cell? ⟨b, o + 1, none⟩ = some (.int .i64 low) := hb2.mid ho 1 _ rfl
  have y0 : ((W.alloc (.cells (mcells m (.slice A m.stamp.length c)).toArray 32)).alloc (.cells #[.int .i64 m.boot, .int .i64 low] 61)).cell? ⟨b, o, none⟩ = some (.int .i64 m.boot) := (hb2.alloc _).mid ho 0 _ rfl
  have HV2 := Lib.hid (show Bk ((W.alloc (.cells (mcells m (.slice A m.stamp.length c)).toArray 32)).alloc (.cells #[.int .i64 m.boot, .int .i64 m.low] 61)) b T (p ++ (clC m.boot low l ++ q)) from hb2.alloc _)
  have x0 : ((W.alloc (.cells (mcells m (.slice A m.stamp.length c)).toArray 32)).alloc (.cells #[.int .i64 m.boot, .int .i64 m.low] 61)).cell? ⟨b, o, none⟩ = some (.int .i64 m.boot) := HV2.out.mid ho 0 _ rfl
  have x1 : ((W.alloc (.cells (mcells m (.slice A m.stamp.length c)).toArray 32)).alloc (.cells #[.int .i64 m.boot, .int .i64 m.low] 61)).cell? ⟨b, o + 1, none⟩ = some (.int .i64 low) := HV2.out.mid ho 1 _ rfl
  have xf := HV2.out.frozen
  have h2 : ¬ m.boot < m.boot := by omega
  have h3 : max low m.low = m.low := by omega
  have d1 : (m.low == low) = false := by rw [beq_eq_false_iff_ne]; omega
  have HK := Lib.hid kA; have HO := Lib.hid ho; have HL := Lib.hid hl8
  clear kA hb hb2 ho hl8
  unfold mcells at z0 z1 y0 x0 x1 xf HK HV2 ⊢
  go_enter Tryz.func36, Tryz.ntmps36
  go_wp2
  go_region
  go_wp2
  go_region
  go_wp2
  go_region
  all_goals
    go_wp2
    go_loopw [52] (fun i wr => ∃ k : Nat, k ≤ 8 ∧ i = .int .i64 k ∧ Bk wr b T (p ++ (clC m.boot m.low (cutK m.low l k) ++ q)) ∧ Kp (One b) W wr) (fun i _ => 8 - (intOf i).toNat)
    case atStart => exact ⟨0, Nat.zero_le _, rfl, HB0.out _ _, HK0.out _ _⟩
    case round =>
    obtain ⟨k, hk, rfl, hb, hkp⟩ := hrel
    clear z0 z1 y0 x0 x1 xf wf HV2 HB0 HK0 HK v0 v1
    by_cases hlt : k < 8
    · have hk0 : (0 : Int) ≤ (k : Int) := by omega
      have hk1 : (k : Int) < 8 := by omega
      have hkl : k < l.length := by rw [HL.out]; exact hlt
      have kl2 : k < (cutK m.low l k).length := by rw [cutK_len _ _ _ (by omega)]; exact hkl
      have hb2 := hb
      rw [clC_split p q m.boot m.low (cutK m.low l k) k kl2, cutK_get m.low l k hkl] at hb2
      have hpre := clC_pre p m.boot m.low (cutK m.low l k) k o kl2 HO.out
      have s0 : wr.cell? ⟨b, o + 2 + k * 17, none⟩ = some (.int .i64 l[k].1.seq) := hb2.mid hpre 0 _ rfl
      have lw : wr.cell? ⟨b, o + 1, none⟩ = some (.int .i64 m.low) := hb.mid HO.out 1 _ rfl
      have hst := cutK_step m.low l k hkl
      have HK2 := Lib.hid hkp
      by_cases hs : l[k].1.seq < m.low
      · rw [if_pos hs] at hst
        have HTH := Lib.hid (show wr.drew.there b (o + 2 + k * 17) (slC ({}, .slice none 0 0)).toArray.size from (hb2.no (Kp.refl No wr).drew).midThere hpre (Nat.le_refl _))
        have hi2 : Hid ((Tryz.prog.info? 63).map (·.size) = some (slC ({}, .slice none 0 0)).toArray.size) := Lib.hid (by kernel_rfl)
        have h1c : Hid ((slC ({}, .slice none 0 0)).toArray.all (·.oneCell') = true) := Lib.hid (by simp [slC, mcells, Value.oneCell'])
        have HB3 := Lib.hid (show Bk (wr.drew.setCells b (o + 2 + k * 17) (slC ({}, .slice none 0 0))) b T (p ++ (clC m.boot m.low (cutK m.low l (k + 1)) ++ q)) from by
          rw [← hst, clC_set p q m.boot m.low (cutK m.low l k) k kl2]
          exact (hb2.no (Kp.refl No wr).drew).midSets hpre rfl)
        have HK3 := Lib.hid (show Kp (One b) W (wr.drew.setCells b (o + 2 + k * 17) (slC ({}, .slice none 0 0))) from Kp.sets _ _ HK2.out.drew (.inl rfl))
        clear hb hb2 hkp hst hpre kl2
        generalize hz : (slC ({}, .slice none 0 0)) = Z at *
        have HAZ := Lib.hid (show (.agg #[.int .i64 0, .int .i64 0, .int .i64 0, .int .i64 0, .int .i64 0, .int .i64 0, .int .i64 0, .int .i64 0, .string ⟨#[]⟩, .int .i64 0, .int .i64 0, .int .i64 0, .bool false, .int .i64 0, .slice none 0 0, .int .i64 0, .int .i64 0] : Value) = .agg Z.toArray by rw [← hz]; rfl)
        clear hz
        go_wp2
        go_region
        go_wp2_with (refine wpList_store_mid rfl _ _ _ rfl b (o + 2 + k * 17) Z.toArray rfl HAZ.out HTH.out hi2.out h1c.out ?_)
        go_roundw
        case rel => exact ⟨k + 1, by omega, by go_num, HB3.out, HK3.out⟩
        case measure => simp [intOf]; omega
      · rw [if_neg hs] at hst
        have hst2 : cutK m.low l (k + 1) = cutK m.low l k := by
          rw [← hst]
          conv => lhs; rw [← cutK_get m.low l k hkl]
          exact List.set_getElem_self kl2
        have HB3 := Lib.hid (show Bk wr.drew b T (p ++ (clC m.boot m.low (cutK m.low l (k + 1)) ++ q)) from by rw [hst2]; exact hb.no (Kp.refl No wr).drew)
        clear hb hb2 hkp hst hpre kl2 hst2
        go_wp2
        go_region
        go_wp2
        go_roundw
        case rel => exact ⟨k + 1, by omega, by go_num, HB3.out, HK2.out.drew⟩
        case measure => simp [intOf]; omega
    have hk1 : ¬ (k : Int) < 8 := by omega
    have HE := Lib.hid (show cutK m.low l k = cutV m.low l by
      unfold cutK
      rw [List.take_of_length_le (by rw [HL.out]; omega), List.drop_of_length_le (by rw [HL.out]; omega), List.append_nil])
    have HB9 := Lib.hid hb; have HK9 := Lib.hid hkp
    clear hb hkp
    go_wp2
    go_ret
    exact ⟨rfl, by rw [← HE.out]; exact HB9.out, HK9.out⟩
end Go.Proofs.YtaipbikbapjmjaaGreat

/- replies.client's turn to a later boot by contract. No condition beyond what each theorem states. -/
namespace Go.Proofs.YtaipbikbapjmjaaGreat
open Go Go.RowKit Go.PlainAid

theorem zero_slots : Tryz.zeroCells64 = (slsC noSl).toArray := by kernel_rfl
theorem noSl_one : ∀ v ∈ slsC noSl, v.oneCell' = true := by
  intro v hv
  unfold slsC noSl at hv
  rw [List.mem_flatten] at hv
  obtain ⟨l, hl, hv⟩ := hv
  rw [List.mem_map] at hl
  obtain ⟨x, hx, rfl⟩ := hl
  rw [List.mem_replicate] at hx
  obtain ⟨_, rfl⟩ := hx
  simp [slC, mcells] at hv
  repeat (first | (rcases hv with rfl | hv; · rfl) | (subst hv; rfl))
set_option maxRecDepth 100000 in
set_option maxHeartbeats 8000000 in
theorem turn_new (b o : Nat) (T : TypeId) (p q : List Value) (boot low : Int) (l : List (Sl × Value)) (m : Msg) (A : Option Addr) (c : Nat) (W : World) (hl8 : l.length = 8) (hb : Bk W b T (p ++ (clC boot low l ++ q))) (ho : p.length = o) (h1 : boot < m.boot) :
    Calls Tryz.prog 36 #[.pointer (some ⟨b, o, none⟩), .agg (mcells m (.slice A m.stamp.length c)).toArray] W fun e w' => e = .returned (.bool true) ∧ Bk w' b T (p ++ (clC m.boot (max 1 m.low) (cutV (max 1 m.low) noSl) ++ q)) ∧ Kp (One b) W w' := by
  obtain ⟨M, hM⟩ : ∃ M, M = max 1 m.low := ⟨_, rfl⟩
  have hM1 : 1 ≤ M := by omega
  rw [← hM]
  have HMM := Lib.hid hM
  clear hM
  have hbl := hb.lt
  have h2 : ¬ m.boot < boot := by omega
  have d1 : (m.boot == boot) = false := by rw [beq_eq_false_iff_ne]; omega
  have HO := Lib.hid ho
  have kA : Kp No W (W.alloc (.cells (mcells m (.slice A m.stamp.length c)).toArray 32)) := (Kp.refl No W).alloc _
  have hb2 := hb.no kA
  have z0 : (W.alloc (.cells (mcells m (.slice A m.stamp.length c)).toArray 32)).cell? ⟨b, o, none⟩ = some (.int .i64 boot) := hb2.mid ho 0 _ rfl
  have z1 : (W.alloc (.cells (mcells m (.slice A m.stamp.length c)).toArray 32)).cell? ⟨b, o + 1, none⟩ = some (.int .i64 low) := hb2.mid ho 1 _ rfl
  have y0 : ((W.alloc (.cells (mcells m (.slice A m.stamp.length c)).toArray 32)).alloc (.cells #[.int .i64 boot, .int .i64 low] 61)).cell? ⟨b, o, none⟩ = some (.int .i64 boot) := (hb2.alloc _).mid ho 0 _ rfl
  have HW2 := Lib.hid (show Bk (((W.alloc (.cells (mcells m (.slice A m.stamp.length c)).toArray 32)).alloc (.cells #[.int .i64 m.boot, .int .i64 1] 61)).drew.drew) b T (p ++ (clC boot low l ++ q)) from hb2.alloc _)
  have HM2 := Lib.hid (show Bk (((W.alloc (.cells (mcells m (.slice A m.stamp.length c)).toArray 32)).alloc (.cells #[.int .i64 m.boot, .int .i64 1] 61)).drew.drew) W.heap.size 32 (mcells m (.slice A m.stamp.length c)) from (Bk.new' rfl rfl).alloc _)
  have HE2 := Lib.hid (show Bk (((W.alloc (.cells (mcells m (.slice A m.stamp.length c)).toArray 32)).alloc (.cells #[.int .i64 m.boot, .int .i64 1] 61)).drew.drew) (W.heap.size + 1) 61 [.int .i64 m.boot, .int .i64 1] from Bk.new' (by simp) rfl)
  have HK2 := Lib.hid (show Kp (One b) W (((W.alloc (.cells (mcells m (.slice A m.stamp.length c)).toArray 32)).alloc (.cells #[.int .i64 m.boot, .int .i64 1] 61)).drew.drew) from ((kA.alloc _).drew.drew).of_no)
  have hsp : p ++ (clC boot low l ++ q) = (p ++ [.int .i64 boot, .int .i64 low]) ++ (slsC l ++ q) := by simp [clC]
  have hsq : p ++ (clC boot low noSl ++ q) = (p ++ [.int .i64 boot, .int .i64 low]) ++ (slsC noSl ++ q) := by simp [clC]
  have hpl : (p ++ [(.int .i64 boot : Value), .int .i64 low]).length = o + 2 := by rw [List.length_append, ho]; rfl
  have hls : (slsC noSl).length = (slsC l).length := by rw [slsC_len, slsC_len, hl8]; rfl
  have HTH := Lib.hid (show (((W.alloc (.cells (mcells m (.slice A m.stamp.length c)).toArray 32)).alloc (.cells #[.int .i64 m.boot, .int .i64 1] 61)).drew.drew).there b (o + 2) (slsC noSl).toArray.size from by
    have h := HW2.out
    rw [hsp] at h
    exact h.midThere hpl (by rw [List.size_toArray, hls]; omega))
  have HB3 := Lib.hid (show Bk ((((W.alloc (.cells (mcells m (.slice A m.stamp.length c)).toArray 32)).alloc (.cells #[.int .i64 m.boot, .int .i64 1] 61)).drew.drew).setCells b (o + 2) (slsC noSl)) b T (p ++ (clC boot low noSl ++ q)) from by
    have h := HW2.out
    rw [hsp] at h
    rw [hsq]
    exact h.midSets hpl hls)
  have HM3 := Lib.hid (show Bk ((((W.alloc (.cells (mcells m (.slice A m.stamp.length c)).toArray 32)).alloc (.cells #[.int .i64 m.boot, .int .i64 1] 61)).drew.drew).setCells b (o + 2) (slsC noSl)) W.heap.size 32 (mcells m (.slice A m.stamp.length c)) from HM2.out.setsFar (by omega) _ _)
  have HE3 := Lib.hid (show Bk ((((W.alloc (.cells (mcells m (.slice A m.stamp.length c)).toArray 32)).alloc (.cells #[.int .i64 m.boot, .int .i64 1] 61)).drew.drew).setCells b (o + 2) (slsC noSl)) (W.heap.size + 1) 61 [.int .i64 m.boot, .int .i64 1] from HE2.out.setsFar (by omega) _ _)
  have HK3 := Lib.hid (show Kp (One b) W ((((W.alloc (.cells (mcells m (.slice A m.stamp.length c)).toArray 32)).alloc (.cells #[.int .i64 m.boot, .int .i64 1] 61)).drew.drew).setCells b (o + 2) (slsC noSl)) from Kp.sets _ _ HK2.out (.inl rfl))
  have hi2 : Hid ((Tryz.prog.info? 64).map (·.size) = some (slsC noSl).toArray.size) := Lib.hid (by kernel_rfl)
  have h1c : Hid ((slsC noSl).toArray.all (·.oneCell') = true) := Lib.hid (by rw [List.all_toArray, List.all_eq_true]; exact noSl_one)
  have HAZ : Hid ((.agg Tryz.zeroCells64 : Value) = .agg (slsC noSl).toArray) := Lib.hid (by rw [zero_slots])
  have HNL := Lib.hid (show noSl.length = 8 from rfl)
  clear hls hpl hsq hsp HK2 HE2 HM2 HW2 hb hb2 kA hl8 ho
  obtain ⟨N, hN⟩ : ∃ N, N = noSl := ⟨_, rfl⟩
  rw [← hN] at HTH HB3 HM3 HE3 HK3 hi2 h1c HAZ HNL ⊢
  clear hN
  obtain ⟨C, hC⟩ : ∃ C, C = slsC N := ⟨_, rfl⟩
  rw [← hC] at HTH HM3 HE3 HK3 hi2 h1c HAZ
  have HBC := Lib.hid (show Bk ((((W.alloc (.cells (mcells m (.slice A m.stamp.length c)).toArray 32)).alloc (.cells #[.int .i64 m.boot, .int .i64 1] 61)).drew.drew).setCells b (o + 2) C) b T (p ++ (clC boot low N ++ q)) from by rw [hC]; exact HB3.out)
  clear hC HB3
  unfold mcells at z0 z1 y0 HTH HM3 HE3 HK3 HBC ⊢
  go_enter Tryz.func36, Tryz.ntmps36
  go_wp2
  go_region
  go_wp2
  go_region
  go_upto_region 7 with (refine wpList_store_mid rfl _ _ _ rfl b (o + 2) C.toArray rfl HAZ.out HTH.out hi2.out h1c.out ?_)
  have hb3 := HBC.out
  have hm3 := HM3.out
  have he3 := HE3.out
  have hk3 := HK3.out
  clear HBC HM3 HE3 HK3 HTH hi2 h1c HAZ z0 z1 y0
  generalize hw3 : World.setCells _ b (o + 2) C = w3 at *
  clear hw3
  have x0 : w3.cell? ⟨b, o, none⟩ = some (.int .i64 boot) := hb3.mid HO.out 0 _ rfl
  have x1 : w3.cell? ⟨b, o + 1, none⟩ = some (.int .i64 low) := hb3.mid HO.out 1 _ rfl
  have xf := hb3.frozen
  have m5 : w3.cell? ⟨W.heap.size, 5, none⟩ = some (.int .i64 m.low) := hm3.cell 5
  have e0 : w3.cell? ⟨W.heap.size + 1, 0, none⟩ = some (.int .i64 m.boot) := he3.cell 0
  have e1 : w3.cell? ⟨W.heap.size + 1, 1, none⟩ = some (.int .i64 1) := he3.cell 1
  have ef := he3.frozen
  have h3 : max 1 m.low = M := HMM.out.symm
  have HB0 := Lib.hid (show Bk ((((w3.setCell ⟨W.heap.size + 1, 1, none⟩ (.int .i64 M)).setCell ⟨b, o, none⟩ (.int .i64 m.boot)).setCell ⟨b, o + 1, none⟩ (.int .i64 M)).drew) b T (p ++ (clC m.boot M (cutK M N 0) ++ q)) from by
    have e0 : cutK M N 0 = N := by simp [cutK, cutV]
    rw [e0]
    have h := ((hb3.far (p := ⟨W.heap.size + 1, 1, none⟩) (by show b ≠ W.heap.size + 1; omega) (.int .i64 M)).midSet (j := 0) HO.out (by simp [clC]) (.int .i64 m.boot)).midSet (j := 1) HO.out (by simp [clC]) (.int .i64 M)
    exact h)
  have HK0 := Lib.hid (show Kp (One b) W ((((w3.setCell ⟨W.heap.size + 1, 1, none⟩ (.int .i64 M)).setCell ⟨b, o, none⟩ (.int .i64 m.boot)).setCell ⟨b, o + 1, none⟩ (.int .i64 M)).drew) from (((hk3.set (.inr (by omega)) _ _).set (.inl rfl) _ _).set (.inl rfl) _ _).drew)
  go_wp2
  go_region
  all_goals
    go_wp2
    go_loopw [52] (fun i wr => ∃ k : Nat, k ≤ 8 ∧ i = .int .i64 k ∧ Bk wr b T (p ++ (clC m.boot M (cutK M N k) ++ q)) ∧ Kp (One b) W wr) (fun i _ => 8 - (intOf i).toNat)
    case atStart => exact ⟨0, Nat.zero_le _, rfl, HB0.out, HK0.out⟩
    case round =>
    obtain ⟨k, hk, rfl, hb, hkp⟩ := hrel
    clear x0 x1 xf m5 e0 e1 ef HB0 HK0 hb3 hm3 he3 hk3
    by_cases hlt : k < 8
    · have hk0 : (0 : Int) ≤ (k : Int) := by omega
      have hk1 : (k : Int) < 8 := by omega
      have hkl : k < N.length := by rw [HNL.out]; exact hlt
      have kl2 : k < (cutK M N k).length := by rw [cutK_len _ _ _ (by omega)]; exact hkl
      have hb2 := hb
      rw [clC_split p q m.boot M (cutK M N k) k kl2, cutK_get M N k hkl] at hb2
      have hpre := clC_pre p m.boot M (cutK M N k) k o kl2 HO.out
      have s0 : wr.cell? ⟨b, o + 2 + k * 17, none⟩ = some (.int .i64 N[k].1.seq) := hb2.mid hpre 0 _ rfl
      have lw : wr.cell? ⟨b, o + 1, none⟩ = some (.int .i64 M) := hb.mid HO.out 1 _ rfl
      have hst := cutK_step M N k hkl
      have HK2 := Lib.hid hkp
      by_cases hs : N[k].1.seq < M
      · rw [if_pos hs] at hst
        have HTH := Lib.hid (show wr.drew.there b (o + 2 + k * 17) (slC ({}, .slice none 0 0)).toArray.size from (hb2.no (Kp.refl No wr).drew).midThere hpre (Nat.le_refl _))
        have hi2 : Hid ((Tryz.prog.info? 63).map (·.size) = some (slC ({}, .slice none 0 0)).toArray.size) := Lib.hid (by kernel_rfl)
        have h1c : Hid ((slC ({}, .slice none 0 0)).toArray.all (·.oneCell') = true) := Lib.hid (by simp [slC, mcells, Value.oneCell'])
        have HB3 := Lib.hid (show Bk (wr.drew.setCells b (o + 2 + k * 17) (slC ({}, .slice none 0 0))) b T (p ++ (clC m.boot M (cutK M N (k + 1)) ++ q)) from by
          rw [← hst, clC_set p q m.boot M (cutK M N k) k kl2]
          exact (hb2.no (Kp.refl No wr).drew).midSets hpre rfl)
        have HK3 := Lib.hid (show Kp (One b) W (wr.drew.setCells b (o + 2 + k * 17) (slC ({}, .slice none 0 0))) from Kp.sets _ _ HK2.out.drew (.inl rfl))
        clear hb hb2 hkp hst hpre kl2
        generalize hz : (slC ({}, .slice none 0 0)) = Z at *
        have HAZ := Lib.hid (show (.agg #[.int .i64 0, .int .i64 0, .int .i64 0, .int .i64 0, .int .i64 0, .int .i64 0, .int .i64 0, .int .i64 0, .string ⟨#[]⟩, .int .i64 0, .int .i64 0, .int .i64 0, .bool false, .int .i64 0, .slice none 0 0, .int .i64 0, .int .i64 0] : Value) = .agg Z.toArray by rw [← hz]; rfl)
        clear hz
        go_wp2
        go_region
        go_wp2_with (refine wpList_store_mid rfl _ _ _ rfl b (o + 2 + k * 17) Z.toArray rfl HAZ.out HTH.out hi2.out h1c.out ?_)
        go_roundw
        case rel => exact ⟨k + 1, by omega, by go_num, HB3.out, HK3.out⟩
        case measure => simp [intOf]; omega
      · rw [if_neg hs] at hst
        have hst2 : cutK M N (k + 1) = cutK M N k := by
          rw [← hst]
          conv => lhs; rw [← cutK_get M N k hkl]
          exact List.set_getElem_self kl2
        have HB3 := Lib.hid (show Bk wr.drew b T (p ++ (clC m.boot M (cutK M N (k + 1)) ++ q)) from by rw [hst2]; exact hb.no (Kp.refl No wr).drew)
        clear hb hb2 hkp hst hpre kl2 hst2
        go_wp2
        go_region
        go_wp2
        go_roundw
        case rel => exact ⟨k + 1, by omega, by go_num, HB3.out, HK2.out.drew⟩
        case measure => simp [intOf]; omega
    have hk1 : ¬ (k : Int) < 8 := by omega
    have HE := Lib.hid (show cutK M N k = cutV M N by
      unfold cutK
      rw [List.take_of_length_le (by rw [HNL.out]; omega), List.drop_of_length_le (by rw [HNL.out]; omega), List.append_nil])
    have HB9 := Lib.hid hb; have HK9 := Lib.hid hkp
    clear hb hkp
    go_wp2
    go_ret
    exact ⟨rfl, by rw [← HE.out]; exact HB9.out, HK9.out⟩
end Go.Proofs.YtaipbikbapjmjaaGreat

/- replies.client's turn by contract, all ways joined. No condition beyond what each theorem states. -/
namespace Go.Proofs.YtaipbikbapjmjaaGreat
open Go Go.RowKit Go.PlainAid

theorem cutV_fst (low : Int) (l : List (Sl × Value)) : (cutV low l).map Prod.fst = cutS low (l.map Prod.fst) := by
  unfold cutV cutS
  rw [List.map_map, List.map_map]
  congr 1
  funext x
  simp only [Function.comp_apply]
  split <;> rfl
theorem cutV_mem {low : Int} {l : List (Sl × Value)} {y : Sl × Value} (h : y ∈ cutV low l) : y ∈ l ∨ y = ({}, .slice none 0 0) := by
  unfold cutV at h
  rw [List.mem_map] at h
  obtain ⟨x, hx, e⟩ := h
  split at e
  · exact .inr e.symm
  · subst e; exact .inl hx
def TurnR (b : Nat) (T : TypeId) (p q : List Value) (boot low : Int) (l : List (Sl × Value)) (m : Msg) (W : World) (e : Ending) (w' : World) : Prop :=
  (turnS ⟨boot, low, l.map Prod.fst⟩ m = none ∧ e = .returned (.bool false) ∧ Kp No W w') ∨
  ∃ p' l', turnS ⟨boot, low, l.map Prod.fst⟩ m = some p' ∧ l'.map Prod.fst = p'.slots ∧ l'.length = 8 ∧ (∀ y ∈ l', y ∈ l ∨ y = ({}, .slice none 0 0)) ∧ e = .returned (.bool true) ∧ Bk w' b T (p ++ (clC p'.boot p'.low l' ++ q)) ∧ Kp (One b) W w'
theorem turn_any (b o : Nat) (T : TypeId) (p q : List Value) (boot low : Int) (l : List (Sl × Value)) (m : Msg) (A : Option Addr) (c : Nat) (W : World) (hl8 : l.length = 8) (hb : Bk W b T (p ++ (clC boot low l ++ q))) (ho : p.length = o) :
    Calls Tryz.prog 36 #[.pointer (some ⟨b, o, none⟩), .agg (mcells m (.slice A m.stamp.length c)).toArray] W (TurnR b T p q boot low l m W) := by
  by_cases h1 : m.boot < boot
  · refine (turn_old b o T p q boot low l m A c W hb ho h1).mono fun e w' h => ?_
    exact .inl ⟨by unfold turnS; rw [if_pos h1], h.1, h.2⟩
  · by_cases h2 : boot < m.boot
    · refine (turn_new b o T p q boot low l m A c W hl8 hb ho h2).mono fun e w' h => ?_
      refine .inr ⟨_, cutV (max 1 m.low) noSl, by unfold turnS; rw [if_neg h1, if_pos h2], ?_, by simp [cutV, noSl], fun y hy => ?_, h.1, h.2.1, h.2.2⟩
      · rw [cutV_fst]; rfl
      · rcases cutV_mem hy with h3 | h3
        · exact .inr (List.mem_replicate.1 h3).2
        · exact .inr h3
    · have e : boot = m.boot := by omega
      subst e
      by_cases h3 : m.low ≤ low
      · refine (turn_same b o T p q low l m A c W hb ho h3).mono fun e w' h => ?_
        exact .inr ⟨_, l, by unfold turnS; rw [if_neg h1, if_neg h2, if_pos (by show max low m.low = low; omega)], rfl, hl8, fun y hy => .inl hy, h.1, hb.no h.2, h.2.of_no⟩
      · refine (turn_later b o T p q low l m A c W hl8 hb ho (by omega)).mono fun e w' h => ?_
        have hm : max low m.low = m.low := by omega
        refine .inr ⟨_, cutV m.low l, by unfold turnS; rw [if_neg h1, if_neg h2, if_neg (by show ¬ max low m.low = low; omega)], ?_, by simp [cutV, hl8], fun y hy => cutV_mem hy, h.1, ?_, h.2.2⟩
        · rw [cutV_fst, hm]
        · rw [hm]; exact h.2.1
end Go.Proofs.YtaipbikbapjmjaaGreat

/- replies.twin by contract. No condition beyond what each theorem states. -/
namespace Go.Proofs.YtaipbikbapjmjaaGreat
open Go Go.RowKit Go.PlainAid

/-- a message with a list of its own -/
def TwinR (W : World) (m : Msg) (e : Ending) (w' : World) : Prop := ∃ sv, e = .returned (.agg (mcells m sv).toArray) ∧ w'.ownsRow W.heap.size 3 1 sv m.stamp.length (ints m.stamp) ∧ Kp No W w'
set_option maxRecDepth 100000 in
set_option maxHeartbeats 4000000 in
theorem twin_any (m : Msg) (A : Option Addr) (c : Nat) (W : World) (hs : ArgInts W (.slice A m.stamp.length c) m.stamp) (hl : m.stamp.length ≤ 17592186044416) :
    Calls Tryz.prog 23 #[.agg (mcells m (.slice A m.stamp.length c)).toArray] W (TwinR W m) := by
  have kA : Kp No W ((W.alloc (.cells (mcells m (.slice A m.stamp.length c)).toArray 32)).alloc (.cells (mcells ({} : Msg) (.slice none 0 0)).toArray 32)) := ((Kp.refl No W).alloc _).alloc _
  have HB := Lib.hid (show Bk ((W.alloc (.cells (mcells m (.slice A m.stamp.length c)).toArray 32)).alloc (.cells (mcells ({} : Msg) (.slice none 0 0)).toArray 32)) W.heap.size 32 (mcells m (.slice A m.stamp.length c)) from (Bk.new' rfl rfl).alloc _)
  have HR := Lib.hid (show Bk ((W.alloc (.cells (mcells m (.slice A m.stamp.length c)).toArray 32)).alloc (.cells (mcells ({} : Msg) (.slice none 0 0)).toArray 32)) (W.heap.size + 1) 32 (mcells ({} : Msg) (.slice none 0 0)) from Bk.new' (by simp) rfl)
  have HS := Lib.hid (hs.no kA); have HK := Lib.hid kA
  have hsz : W.heap.size ≤ ((W.alloc (.cells (mcells m (.slice A m.stamp.length c)).toArray 32)).alloc (.cells (mcells ({} : Msg) (.slice none 0 0)).toArray 32)).heap.size := kA.size
  have z13 : ((W.alloc (.cells (mcells m (.slice A m.stamp.length c)).toArray 32)).alloc (.cells (mcells ({} : Msg) (.slice none 0 0)).toArray 32)).cell? ⟨W.heap.size, 13, none⟩ = some (.slice A m.stamp.length c) := HB.out.cell 13
  clear kA hs
  unfold mcells at HB HR HS HK hsz z13 ⊢
  go_enter Tryz.func23, Tryz.ntmps23
  go_upto_region 2 with (at_builtin; refine (wpList_appV _ rfl _ _ 30 rfl W.heap.size 3 _ 8 Tryz.underlying30 Tryz.infoI rfl _ 0 [] rfl (nil_own _ _ _ _) A m.stamp.length c (ints m.stamp) rfl (by simp) HS.out.cs.1 (ints_one _) (by omega) (by omega) hsz ?_); intro v1 w1 o1 k1 n1; rw [Nat.zero_add, List.nil_append] at o1; have k1b : Kp No _ w1 := k1.mono (fun _ _ h => by cases h); obtain ⟨A1, c1, hv1, _⟩ := own_len o1; subst hv1; have HO1 := Lib.hid o1; have HB1 := Lib.hid (HB.out.no k1b); have HR1 := Lib.hid (HR.out.no k1b); have HK1 := Lib.hid (HK.out.trans k1b); have y13 : w1.cell? ⟨W.heap.size, 13, none⟩ = some (.slice A m.stamp.length c) := HB1.out.cell 13; have yf := HB1.out.frozen; clear o1 k1 n1 k1b)
  clear y13 yf z13 hsz
  have HB2 := Lib.hid (show Bk (w1.setCell ⟨W.heap.size, 13, none⟩ (.slice A1 m.stamp.length c1)) W.heap.size 32 (mcells m (.slice A1 m.stamp.length c1)) from HB1.out.set_ 13 _)
  have kx : Kp (One W.heap.size) w1 (w1.setCell ⟨W.heap.size, 13, none⟩ (.slice A1 m.stamp.length c1)) := (Kp.refl (One W.heap.size) w1).set (.inl rfl) 13 _
  have HR2 := Lib.hid (show Bk (w1.setCell ⟨W.heap.size, 13, none⟩ (.slice A1 m.stamp.length c1)) (W.heap.size + 1) 32 (mcells ({} : Msg) (.slice none 0 0)) from HR1.out.kp kx (fun e => by have e : W.heap.size + 1 = W.heap.size := e; omega))
  have HK2 := Lib.hid (show Kp No W (w1.setCell ⟨W.heap.size, 13, none⟩ (.slice A1 m.stamp.length c1)) from HK1.out.set (.inr (Nat.le_refl _)) 13 _)
  have HO2 := Lib.hid (own_kp HO1.out kx (fun g e h => own_ne HO1.out HB1.out (by decide) (by rw [e, show g = W.heap.size from h])))
  clear kx HB HR HS HK HB1 HR1 HK1 HO1
  generalize (w1.setCell ⟨W.heap.size, 13, none⟩ (.slice A1 m.stamp.length c1)) = wz at *
  have HUH := Lib.hid (Tryz.underlying32)
  have hi1 : Hid ((Tryz.prog.info? 32).map (·.size) = some (mcells m (.slice A1 m.stamp.length c1)).length) := Lib.hid (by kernel_rfl)
  have hi2 : Hid ((Tryz.prog.info? 32).map (·.size) = some (mcells m (.slice A1 m.stamp.length c1)).toArray.size) := Lib.hid (by kernel_rfl)
  have h1c : Hid ((mcells m (.slice A1 m.stamp.length c1)).toArray.all (·.oneCell') = true) := Lib.hid (by simp [mcells, Value.oneCell'])
  have HTH := Lib.hid (show wz.there (W.heap.size + 1) 0 (mcells m (.slice A1 m.stamp.length c1)).toArray.size from HR2.out.there 0 16 (by simp [mcells]))
  have HRG := Lib.hid (range_of HB2.out)
  have HBS := Lib.hid (show Bk (wz.setCells (W.heap.size + 1) 0 (mcells m (.slice A1 m.stamp.length c1))) (W.heap.size + 1) 32 (mcells m (.slice A1 m.stamp.length c1)) from by
    have := Bk.sets (mcells m (.slice A1 m.stamp.length c1)) 0 HR2.out (by simp [mcells])
    simpa [mcells] using this)
  have ky : Kp (One (W.heap.size + 1)) wz (wz.setCells (W.heap.size + 1) 0 (mcells m (.slice A1 m.stamp.length c1))) := Kp.sets _ 0 (Kp.refl _ _) (.inl rfl)
  have hfin : TwinR W m (.returned (.agg (mcells m (.slice A1 m.stamp.length c1)).toArray)) (wz.setCells (W.heap.size + 1) 0 (mcells m (.slice A1 m.stamp.length c1))) := ⟨_, rfl, own_kp HO2.out ky (fun g e h => own_ne HO2.out HR2.out (by decide) (by rw [e, show g = W.heap.size + 1 from h])), Kp.sets _ 0 HK2.out (.inr (by omega))⟩
  have HFIN := Lib.hid hfin
  clear hfin ky HB2 HR2 HK2 HO2
  generalize hcs : mcells m (.slice A1 m.stamp.length c1) = cs at *
  have HCS := Lib.hid hcs; clear hcs
  go_wp2_with (first
    | (refine wpList_load_mid rfl _ _ rfl W.heap.size 0 rfl cs _ HRG.out HUH.out rfl hi1.out ?_)
    | (refine wpList_store_mid rfl _ _ _ rfl (W.heap.size + 1) 0 cs.toArray rfl rfl HTH.out hi2.out h1c.out ?_))
  have B9 := HBS.out
  have hfin := HFIN.out
  clear HBS HFIN
  generalize wz.setCells (W.heap.size + 1) 0 cs = w9 at *
  rw [← HCS.out] at B9 hfin
  clear HRG HTH h1c hi1 hi2 HUH HCS
  have x0 := B9.cell 0
  have x1 := B9.cell 1
  have x2 := B9.cell 2
  have x3 := B9.cell 3
  have x4 := B9.cell 4
  have x5 := B9.cell 5
  have x6 := B9.cell 6
  have x7 := B9.cell 7
  have x8 := B9.cell 8
  have x9 := B9.cell 9
  have x10 := B9.cell 10
  have x11 := B9.cell 11
  have x12 := B9.cell 12
  have x13 := B9.cell 13
  have x14 := B9.cell 14
  have x15 := B9.cell 15
  simp only [mcells, List.getElem?_cons_zero, List.getElem?_cons_succ] at x0 x1 x2 x3 x4 x5 x6 x7 x8 x9 x10 x11 x12 x13 x14 x15
  clear B9
  refine bodyPost_ret (v := .agg (mcells m (.slice A1 m.stamp.length c1)).toArray) (by simp [results, Tryz.results23, go_sem, x0, x1, x2, x3, x4, x5, x6, x7, x8, x9, x10, x11, x12, x13, x14, x15, mcells]) rfl ?_
  exact hfin
end Go.Proofs.YtaipbikbapjmjaaGreat

/- replies.Len by contract. No condition beyond what each theorem states. -/
namespace Go.Proofs.YtaipbikbapjmjaaGreat
open Go Go.RowKit Go.PlainAid

def lenV (cs : List CV) (k : Int) : Nat := if k < 0 ∨ 8 ≤ k then 0 else ((cs.getD k.toNat (0, 0, [])).2.2.filter fun x => decide (0 < x.1.seq)).length
theorem index_slot (cs : Array Value) (k : Nat) (hk : k < 8) (w : World) : (Instr.index 64 (.agg cs) (.int .i64 (k : Int))).run Tryz.prog w = .ok (.agg (cs.extract (k * 17) (k * 17 + 17))) w := by
  have hag : (isAgg 63).run Tryz.prog w = .ok true w := by kernel_rfl
  have hsz : (sizeOf 63).run Tryz.prog w = .ok 17 w := by kernel_rfl
  have h0 : (0 : Int) ≤ (k : Int) ∧ (k : Int) < (8 : Nat) := by omega
  simp only [Instr.index, asIntOf, Sem.run_bind, Sem.run_pure, Result.andThen_ok, run_underlying Tryz.underlying64, if_pos h0, hsz, part, hag, if_true, Int.toNat_natCast]
theorem slot_extract (l : List (Sl × Value)) (k : Nat) (hk : k < l.length) : (slsC l).toArray.extract (k * 17) (k * 17 + 17) = (slC l[k]).toArray := by
  rw [List.extract_toArray, List.extract_eq_take_drop, show k * 17 + 17 - k * 17 = 17 by omega]
  congr 1
  have h := slsC_split l k hk
  have hl : (slsC (l.take k)).length = k * 17 := by rw [slsC_len, List.length_take]; omega
  rw [h, List.drop_left' hl, List.take_left' (slC_len _)]
theorem rlen_nil (k : Int) (w : World) : Calls Tryz.prog 14 #[.pointer none, .int .i64 k] w fun e w' => e = .returned (.int .i64 0) ∧ w = w' := by
  go_enter Tryz.func14, Tryz.ntmps14
  go_wp2
  go_ret
  exact ⟨rfl, rfl⟩
set_option maxRecDepth 100000 in
set_option maxHeartbeats 4000000 in
theorem rlen_out (b : Nat) (k : Int) (hk : k < 0 ∨ 8 ≤ k) (w : World) : Calls Tryz.prog 14 #[.pointer (some ⟨b, 0, none⟩), .int .i64 k] w fun e w' => e = .returned (.int .i64 0) ∧ w = w' := by
  go_enter Tryz.func14, Tryz.ntmps14
  have hd : (k < 0) ∨ (0 ≤ k ∧ 8 ≤ k) := by omega
  clear hk
  rcases hd with h1 | ⟨h1, h2⟩
  all_goals
    go_wp2
    go_ret
    exact ⟨rfl, rfl⟩
set_option maxRecDepth 100000 in
set_option maxHeartbeats 4000000 in
theorem rlen_in (b k : Nat) (cs : List CV) (hlen : cs.length = 8) (hok : ∀ x ∈ cs, x.2.2.length = 8) (hone : ∀ x ∈ cs, ∀ y ∈ x.2.2, y.2.oneCell' = true) (hk : k < 8) (w : World) (hb : Bk w b 69 (rpC cs)) :
    Calls Tryz.prog 14 #[.pointer (some ⟨b, 0, none⟩), .int .i64 (k : Int)] w fun e w' => e = .returned (.int .i64 ((lenV cs k : Nat) : Int)) ∧ Kp No w w' := by
  have hkl : k < cs.length := by omega
  have hpl : (rpC (cs.take k)).length = k * 138 := by
    rw [rpC_len _ fun x hx => hok x (List.mem_of_mem_take hx), List.length_take]; omega
  obtain ⟨l, hl⟩ : ∃ l, l = (cs[k]).2.2 := ⟨_, rfl⟩
  have hl8 : l.length = 8 := by rw [hl]; exact hok _ (List.getElem_mem hkl)
  have HON := Lib.hid (show ∀ y ∈ l, y.2.oneCell' = true from fun y hy => hone _ (List.getElem_mem hkl) y (by rw [← hl]; exact hy))
  have HR := Lib.hid (show w.rangeAt b (k * 138 + 2) (slsC l) from fun j v hv => by
    have h2 := hb
    rw [rpC_split cs k hkl] at h2
    have h3 := h2.mid hpl (2 + j) v (by rw [hl] at hv; rw [Nat.add_comm]; exact hv)
    rw [show k * 138 + 2 + j = k * 138 + (2 + j) by omega]; exact h3)
  have HV := Lib.hid (show lenV cs k = (l.filter fun x => decide (0 < x.1.seq)).length by
    unfold lenV
    rw [if_neg (by omega), Int.toNat_natCast, List.getD_eq_getElem?_getD, List.getElem?_eq_getElem hkl, Option.getD_some, hl])
  have HI := Lib.hid (show (Tryz.prog.info? 64).map (·.size) = some (slsC l).length by rw [slsC_len, hl8]; kernel_rfl)
  have HU := Lib.hid Tryz.underlying64
  have HL8 := Lib.hid hl8
  have hk0 : (0 : Int) ≤ (k : Int) := by omega
  have hk1 : (k : Int) < 8 := by omega
  have hk2 : ¬ (k : Int) < 0 := by omega
  have hk3 : ¬ 8 ≤ (k : Int) := by omega
  clear hb hpl hl hl8 hkl hone hok
  go_enter Tryz.func14, Tryz.ntmps14
  go_wp2_with (refine wpList_load_mid rfl _ _ rfl b (k * 138 + 2) rfl (slsC l) _ HR.out HU.out rfl HI.out ?_)
  go_loopw [5, 25] (fun c i wr => ∃ j : Nat, j ≤ 8 ∧ i = .int .i64 j ∧ c = .int .i64 (((l.take j).filter fun x => decide (0 < x.1.seq)).length : Nat) ∧ Kp No w wr) (fun _ i _ => 8 - (intOf i).toNat)
  case atStart => exact ⟨0, Nat.zero_le _, rfl, rfl, Kp.refl _ _⟩
  case round =>
  obtain ⟨j, hj, rfl, rfl, hkp⟩ := hrel
  have HK := Lib.hid hkp; clear hkp
  by_cases hlt : j < 8
  · have hj0 : (0 : Int) ≤ (j : Int) := by omega
    have hj1 : (j : Int) < 8 := by omega
    have hjl : j < l.length := by rw [HL8.out]; exact hlt
    have hix : ∀ W9 : World, (Instr.index 64 (.agg (slsC l).toArray) (.int .i64 (j : Int))).run Tryz.prog W9 = .ok (.agg (slC l[j]).toArray) W9 := fun W9 => by
      rw [index_slot _ j hlt, slot_extract l j hjl]
    obtain ⟨C, hC⟩ : ∃ C : List Value, C = slC l[j] := ⟨_, rfl⟩
    have hlC : C.length = 17 := by rw [hC]; rfl
    have HZB : Hid (Bk (wr.alloc (.cells (slC ({}, .slice none 0 0)).toArray 63)) wr.heap.size 63 (slC ({}, .slice none 0 0))) := Lib.hid (Bk.new' rfl rfl)
    have HTH := Lib.hid (show (wr.alloc (.cells (slC ({}, .slice none 0 0)).toArray 63)).there wr.heap.size 0 C.toArray.size from HZB.out.there 0 _ (by rw [List.size_toArray, hlC, slC_len]; omega))
    have hi2 : Hid ((Tryz.prog.info? 63).map (·.size) = some C.toArray.size) := Lib.hid (by rw [List.size_toArray, hlC]; kernel_rfl)
    have h1c : Hid (C.toArray.all (·.oneCell') = true) := Lib.hid (by
      have := HON.out l[j] (List.getElem_mem hjl)
      rw [hC]
      simp [slC, mcells, Value.oneCell'] at this ⊢
      exact this)
    have HBS := Lib.hid (show Bk ((wr.alloc (.cells (slC ({}, .slice none 0 0)).toArray 63)).setCells wr.heap.size 0 C) wr.heap.size 63 C from by
      have h := Bk.sets C 0 HZB.out (by rw [hlC, slC_len]; omega)
      rw [List.take_zero, List.nil_append, List.drop_of_length_le (by rw [hlC, slC_len]; omega), List.append_nil] at h
      exact h)
    have HK2 := Lib.hid (show Kp No w ((wr.alloc (.cells (slC ({}, .slice none 0 0)).toArray 63)).setCells wr.heap.size 0 C) from Kp.sets _ 0 (HK.out.alloc _) (.inr HK.out.size))
    rw [← hC] at hix
    have HC := Lib.hid hC
    clear hC hlC HZB
    simp only [slC, mcells] at HTH HBS HK2
    have HF := Lib.hid (show (l.take (j + 1)).filter (fun x => decide (0 < x.1.seq)) = (l.take j).filter (fun x => decide (0 < x.1.seq)) ++ [l[j]].filter (fun x => decide (0 < x.1.seq)) by rw [List.take_succ_eq_append_getElem hjl, List.filter_append])
    have hcnt : ((l.take j).filter fun x => decide (0 < x.1.seq)).length ≤ 8 := Nat.le_trans (List.length_filter_le _ _) (by rw [List.length_take]; omega)
    go_upto_region 7 with (refine wpList_store_mid rfl _ _ _ rfl wr.heap.size 0 C.toArray rfl rfl HTH.out hi2.out h1c.out ?_)
    have b0 := HBS.out
    have k0 := HK2.out
    clear HBS HK2 HTH hi2 h1c hix
    generalize hw7 : World.setCells _ wr.heap.size 0 C = w7 at *
    clear hw7
    rw [HC.out] at b0
    have z0 : w7.cell? ⟨wr.heap.size, 0, none⟩ = some (.int .i64 l[j].1.seq) := b0.cell 0
    clear HC
    have HK7 := Lib.hid k0
    clear b0 k0
    generalize l[j] = x at *
    by_cases hs : 0 < x.1.seq
    · have HF2 := Lib.hid (show ((l.take (j + 1)).filter fun x => decide (0 < x.1.seq)).length = ((l.take j).filter fun x => decide (0 < x.1.seq)).length + 1 by rw [HF.out]; simp [hs])
      generalize ((l.take j).filter fun x => decide (0 < x.1.seq)).length = c0 at *
      go_wp2
      go_roundw
      case rel => exact ⟨j + 1, by omega, by go_num, by rw [HF2.out]; go_num, HK7.out⟩
      case measure => simp [intOf]; omega
    · have HF2 := Lib.hid (show ((l.take (j + 1)).filter fun x => decide (0 < x.1.seq)).length = ((l.take j).filter fun x => decide (0 < x.1.seq)).length by rw [HF.out]; simp [hs])
      generalize ((l.take j).filter fun x => decide (0 < x.1.seq)).length = c0 at *
      go_wp2
      go_roundw
      case rel => exact ⟨j + 1, by omega, by go_num, by rw [HF2.out], HK7.out⟩
      case measure => simp [intOf]; omega
  have hj1 : ¬ (j : Int) < 8 := by omega
  have HE := Lib.hid (show ((l.take j).filter fun x => decide (0 < x.1.seq)).length = lenV cs k by rw [HV.out, List.take_of_length_le (by rw [HL8.out]; omega)])
  generalize ((l.take j).filter fun x => decide (0 < x.1.seq)).length = c0 at *
  go_wp2
  go_ret
  rw [← HE.out]
  exact ⟨rfl, HK.out⟩
end Go.Proofs.YtaipbikbapjmjaaGreat
