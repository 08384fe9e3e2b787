/- A message that came in. No condition beyond what each theorem states. -/
import Derived.Test.YtbnpdghfbiacaaaMs
import Derived.ProofKit
import Derived.PlainAid
import Derived.WideShapes
import Derived.OpenShut
import Derived.ChangeOld
import Derived.SizedLaws
import Derived.Deep.Fields
import Derived.ChangeArms
namespace Go.Proofs.Ytbnpdghfbiacaaa
open Go Go.RowKit Go.PlainAid Go.ChangeShapes Go.WideShapes Go.ChangeAt Go.Deep

section
variable {H : Type} {enc : TypeId × Value → H} {P : Program}
theorem array16 {α : Type} {cs : Array α} (h : cs.size = 16) : ∃ a0 a1 a2 a3 a4 a5 a6 a7 a8 a9 a10 a11 a12 a13 a14 a15, cs = #[a0, a1, a2, a3, a4, a5, a6, a7, a8, a9, a10, a11, a12, a13, a14, a15] := by
  obtain ⟨l⟩ := cs
  match l, h with
  | [a0, a1, a2, a3, a4, a5, a6, a7, a8, a9, a10, a11, a12, a13, a14, a15], _ => exact ⟨a0, a1, a2, a3, a4, a5, a6, a7, a8, a9, a10, a11, a12, a13, a14, a15, rfl⟩
/-- a struct of one-cell fields, by value, opened -/
theorem open_aggN {w : World} {base : Nat} {spare : Nat → Bool} {held : Bool} {r : Reach} {b0 : Nat} {t : TypeId} {fs : Array Field} {v : Value} {d : DataW H} {p : List MemPlace} (hs : P.underlying t = some (.struct fs)) (hone : oneCellFields P fs = true) (hC : P.cellsOf t = fs.size)
    (hv : Value.okWide P w r b0 t v) (h : DataW.Trod enc P w base spare held t v d p) :
    ∃ (cs : Array Value) (n : Nat) (xs : List (DataW H × List MemPlace)), v = .agg cs ∧ cs.size = fs.size ∧ d = .agg (xs.map (·.1)) ∧ ∀ (j : Nat) (f : Field), fs[j]? = some f → ∃ c y, cs[j]? = some c ∧ (xs.map (·.1))[j]? = some y.1 ∧ DataW.trod enc P w base spare held n f.type [c] = some y := by
  obtain ⟨cs, rfl, hsz⟩ := okWide_struct hs hv
  obtain ⟨fuel, hf⟩ := h
  obtain ⟨xs, n, _, hx, hl, hlen, hg⟩ := DataW.trod_struct hs hf
  simp only [Prod.mk.injEq] at hx
  have hcsz : cs.size = fs.size := hsz.trans hC
  refine ⟨cs, n, xs, rfl, hcsz, hx.1, fun j f hj => ?_⟩
  obtain ⟨o, k⟩ := hone_of hone j f hj
  have hjl : j < fs.size := (Array.getElem?_eq_some_iff.1 hj).1
  have hg1 := hg j f hj
  rw [o, k] at hg1
  have hcl : j < cs.toList.length := by rw [Array.length_toList]; omega
  have e1 : ((Value.agg cs).cells.toList.drop j).take 1 = [cs[j]'(by omega)] := by
    show (cs.toList.drop j).take 1 = _
    rw [List.drop_eq_getElem_cons hcl]
    simp
  rw [e1] at hg1
  have hys : xs[j]? = some (xs[j]'(by omega)) := List.getElem?_eq_getElem (by omega)
  exact ⟨cs[j]'(by omega), xs[j]'(by omega), Array.getElem?_eq_getElem (by omega), by rw [List.getElem?_map, hys]; rfl, hg1.trans hys⟩
/-- a list of ints in a field -/
theorem open_intsF {W : World} {t e : TypeId} {c : Value} {n : Nat} {y : DataW H × List MemPlace} (ht : P.underlying t = some (.slice e)) (he : P.underlying e = some (.int .i64))
    (ce : P.cellsOf e = 1) (be : P.bytesOf e = 8) (hf : DataW.trod enc P W 0 (fun _ => true) true n t [c] = some y) (hz : ∀ n ∈ y.1.weights P t, n ≤ reachBytes) :
    ∃ L : List Int, ArgInts W c L ∧ L.length ≤ 17592186043904 ∧ ∀ n ∈ L, -9223372036854775808 ≤ n ∧ n ≤ 9223372036854775807 := by
  rcases open_ints ht he ce hf with ⟨hcs, hx⟩ | ⟨a', len, cap, zs, hcs, _, hl, hm, hn, hx, hc, hs⟩
  · simp at hcs
    subst hcs
    exact ⟨[], ArgInts.nil _ _ _, by simp, by simp⟩
  · simp at hcs
    subst hcs
    have hn' : zs.length = cap := by simpa using hn
    subst hx
    have hw := hz ((len + (cap - len)) * P.bytesOf e) (by simp [DataW.weights, ht, hn', lits, Nat.min_eq_left hl])
    rw [be] at hw
    have hlen : (zs.take len).length = len := by simp [hn', hl]
    refine ⟨zs.take len, ⟨some a', cap, by rw [hlen], by rw [hlen]; exact hl, fun hne => ?_⟩, by rw [hlen]; simp [reachBytes] at hw; omega, fun x hx => bounds_i64 (hs x (List.mem_of_mem_take hx))⟩
    have h0 : 0 < zs.length := by
      rcases Nat.eq_zero_or_pos zs.length with h0 | h0
      · exfalso; apply hne; rw [List.eq_nil_of_length_eq_zero h0]; simp [ints]
      · exact h0
    have addr_none : ∀ {w : World} {a : Addr} {v : Value}, w.cell? (a.add 0) = some v → ∃ b o, a = ⟨b, o, none⟩ := by
      intro w a v h
      obtain ⟨b, o, s⟩ := a
      cases s with
      | none => exact ⟨b, o, rfl⟩
      | some s =>
        exfalso
        simp only [World.cell?, Addr.add, if_true] at h
        split at h <;> simp_all
    obtain ⟨b, o, rfl⟩ := addr_none (hc 0 h0)
    refine ⟨b, o, rfl, fun j v hv => ?_⟩
    rw [ints_get] at hv
    have hj : j < (zs.take len).length := by
      rcases Nat.lt_or_ge j (zs.take len).length with h' | h'
      · exact h'
      · rw [List.getElem?_eq_none h'] at hv; simp at hv
    rw [List.getElem?_eq_getElem hj] at hv
    simp only [Option.map_some, Option.some.injEq] at hv
    subst hv
    rw [hlen] at hj
    rw [← Addr.add_mid, hc j (by omega), List.getElem_take, List.getD_eq_getElem?_getD, List.getElem?_eq_getElem (by omega)]
    rfl
end
set_option maxRecDepth 100000 in
set_option maxHeartbeats 1000000 in
theorem open_msg {H : Type} {enc : TypeId × Value → H} {W : World} {b0 : Nat} {v : Value} {d : DataW H} {ps : List MemPlace} (hv : Value.okWide Try.prog W .any b0 29 v) (h : DataW.Trod enc Try.prog W 0 (fun _ => true) true 29 v d ps)
    (hz : ∀ n ∈ d.weights Try.prog 29, n ≤ reachBytes) :
    ∃ (m : Msg) (A : Option Addr) (c : Nat), v = .agg (mcells m (.slice A m.stamp.length c)).toArray ∧ ArgInts W (.slice A m.stamp.length c) m.stamp ∧ Rng m ∧ Short maxLen m ∧ m.stamp.length ≤ 17592186043904 := by
  obtain ⟨cs, n, xs, rfl, hsz, rfl, hg⟩ := open_aggN Try.underlying29 (by kernel_rfl) (by kernel_rfl) hv h
  have hw : ∀ (j : Nat) t y, ([23, 3, 3, 3, 3, 3, 24, 9, 25, 3, 3, 4, 26, 27, 3, 3] : List TypeId)[j]? = some t → (xs.map (·.1))[j]? = some y → ∀ n ∈ y.weights Try.prog t, n ≤ reachBytes := fun j t y h1 h2 n hn => hz n (by
    have := DataW.weights_mem_each h1 h2 n hn
    simpa [DataW.weights, Try.underlying29] using this)
  obtain ⟨c0, y0, e0, x0, t0⟩ := hg 0 _ rfl
  obtain ⟨c1, y1, e1, x1, t1⟩ := hg 1 _ rfl
  obtain ⟨c2, y2, e2, x2, t2⟩ := hg 2 _ rfl
  obtain ⟨c3, y3, e3, x3, t3⟩ := hg 3 _ rfl
  obtain ⟨c4, y4, e4, x4, t4⟩ := hg 4 _ rfl
  obtain ⟨c5, y5, e5, x5, t5⟩ := hg 5 _ rfl
  obtain ⟨c6, y6, e6, x6, t6⟩ := hg 6 _ rfl
  obtain ⟨c7, y7, e7, x7, t7⟩ := hg 7 _ rfl
  obtain ⟨c8, y8, e8, x8, t8⟩ := hg 8 _ rfl
  obtain ⟨c9, y9, e9, x9, t9⟩ := hg 9 _ rfl
  obtain ⟨c10, y10, e10, x10, t10⟩ := hg 10 _ rfl
  obtain ⟨c11, y11, e11, x11, t11⟩ := hg 11 _ rfl
  obtain ⟨c12, y12, e12, x12, t12⟩ := hg 12 _ rfl
  obtain ⟨c13, y13, e13, x13, t13⟩ := hg 13 _ rfl
  obtain ⟨c14, y14, e14, x14, t14⟩ := hg 14 _ rfl
  obtain ⟨c15, y15, e15, x15, t15⟩ := hg 15 _ rfl
  clear hg hz hv h
  obtain ⟨a0, a1, a2, a3, a4, a5, a6, a7, a8, a9, a10, a11, a12, a13, a14, a15, rfl⟩ := array16 hsz
  simp only [List.getElem?_toArray, List.getElem?_cons_zero, List.getElem?_cons_succ, Option.some.injEq] at e0 e1 e2 e3 e4 e5 e6 e7 e8 e9 e10 e11 e12 e13 e14 e15
  subst e0 e1 e2 e3 e4 e5 e6 e7 e8 e9 e10 e11 e12 e13 e14 e15
  obtain ⟨n0, h0, _, w0⟩ := DataW.trod_int Try.underlying23 t0
  obtain ⟨n1, h1, _, w1⟩ := DataW.trod_int Try.underlying3 t1
  obtain ⟨n2, h2, _, w2⟩ := DataW.trod_int Try.underlying3 t2
  obtain ⟨n3, h3, _, w3⟩ := DataW.trod_int Try.underlying3 t3
  obtain ⟨n4, h4, _, w4⟩ := DataW.trod_int Try.underlying3 t4
  obtain ⟨n5, h5, _, w5⟩ := DataW.trod_int Try.underlying3 t5
  obtain ⟨n6, h6, _, w6⟩ := DataW.trod_int Try.underlying24 t6
  obtain ⟨s, h7, _, w7⟩ := DataW.trod_string Try.underlying9 t7
  obtain ⟨n8, h8, _, w8⟩ := DataW.trod_int Try.underlying25 t8
  obtain ⟨n9, h9, _, w9⟩ := DataW.trod_int Try.underlying3 t9
  obtain ⟨n10, h10, _, w10⟩ := DataW.trod_int Try.underlying3 t10
  obtain ⟨fr, h11, _⟩ := DataW.trod_bool Try.underlying4 t11
  obtain ⟨n12, h12, _, w12⟩ := DataW.trod_int Try.underlying26 t12
  obtain ⟨L, hL, hLl, hLr⟩ := open_intsF Try.underlying27 Try.underlying3 (by kernel_rfl) (by kernel_rfl) t13 (hw 13 _ _ rfl x13)
  obtain ⟨n14, h14, _, w14⟩ := DataW.trod_int Try.underlying3 t14
  obtain ⟨n15, h15, _, w15⟩ := DataW.trod_int Try.underlying3 t15
  simp only [List.cons.injEq, and_true] at h0 h1 h2 h3 h4 h5 h6 h7 h8 h9 h10 h11 h12 h14 h15
  subst h0 h1 h2 h3 h4 h5 h6 h7 h8 h9 h10 h11 h12 h14 h15
  obtain ⟨A, c, rfl, hc, hcs⟩ := hL
  refine ⟨{ kind := n0, from_ := n1, dest := n2, boot := n3, seq := n4, low := n5, verb := n6, path := s.data.toList, mode := n8, term := n9, id := n10, fresh := fr, code := n12, stamp := L, origin := n14, number := n15 }, A, c, rfl, ⟨A, c, rfl, hc, hcs⟩, ⟨?_, fun x hx => by have := hLr x hx; omega⟩, ⟨by show s.data.toList.length ≤ maxLen; rw [Array.length_toList]; exact w7, by show L.length ≤ maxLen; unfold maxLen; omega⟩, hLl⟩
  intro x hx
  simp only [List.mem_cons, List.not_mem_nil, or_false] at hx
  have b0 := bounds_i64 w0
  have b1 := bounds_i64 w1
  have b2 := bounds_i64 w2
  have b3 := bounds_i64 w3
  have b4 := bounds_i64 w4
  have b5 := bounds_i64 w5
  have b6 := bounds_i64 w6
  have b8 := bounds_i64 w8
  have b9 := bounds_i64 w9
  have b10 := bounds_i64 w10
  have b12 := bounds_i64 w12
  have b14 := bounds_i64 w14
  have b15 := bounds_i64 w15
  rcases hx with rfl | rfl | rfl | rfl | rfl | rfl | rfl | rfl | rfl | rfl | rfl | rfl | rfl <;> omega
end Go.Proofs.Ytbnpdghfbiacaaa
