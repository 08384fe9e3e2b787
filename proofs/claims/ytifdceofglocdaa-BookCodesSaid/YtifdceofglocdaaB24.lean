/- A list of records that came in; an error leaves no book. No condition beyond what each theorem states. -/
import Derived.Test.YtifdceofglocdaaB23
namespace Go.Proofs.Ytifdceofglocdaa
open Go Go.RowKit Go.PlainAid Go.ChangeShapes Go.WideShapes Go.ChangeAt Go.Deep

theorem apply_err {b : Bok} {r : Rcd} (h : (applyB b r).2 ≠ 0) : (applyB b r).1 = {} := by
  unfold applyB at h ⊢
  split
  · rfl
  · rename_i h1
    rw [if_neg h1] at h
    split
    · rfl
    · rename_i h2
      rw [if_neg h2] at h
      split
      · rfl
      · rename_i c hc
        rw [hc] at h
        exact absurd rfl h
theorem OwnG.low {w w' : World} {B : Nat} {v u : Value} {l : List GP} (h : OwnG w B v l) (hk : Kp (fun k => u.ownBlock = some k) w w') (hu : ∀ j, u.ownBlock = some j → j < B) : OwnG w' B v l :=
  ⟨own_kp h.1 hk fun j e m => by have h1 := (h.1.lt j e).1; have h2 := hu j m; omega, fun p hp => own_kp (h.2 p hp) hk fun j e m => by have h1 := ((h.2 p hp).lt j e).1; have h2 := hu j m; omega⟩
theorem shL_nil (n : Nat) : ShL n [] := ⟨Nat.zero_le _, fun p hp => by cases hp⟩
theorem shL_of_nil {n : Nat} {l : List GP} (h : gsL l = []) : ShL n l := shL_gs (shL_nil n) (h.trans rfl)
theorem last_get {S : List Int} {n : Int} {k : Nat} (hk : S.length = k + 1) (h : newestS S = n) : S[k]? = some n := by
  have hlt : k < S.length := by omega
  have h1 := newestS_last hk (List.getElem?_eq_getElem hlt)
  rw [List.getElem?_eq_getElem hlt, ← h1, h]
/-- a record that came in: its stamps in memory, and what is short -/
def RPin (w : World) (p : RP) : Prop := ArgInts w p.2.1 p.1.grant.stamp ∧ ArgInts w p.2.2 p.1.stamp ∧ ShRin p.1
theorem RPin.no {w w' : World} {p : RP} (h : RPin w p) (hk : Kp No w w') : RPin w' p := ⟨h.1.no hk, h.2.1.no hk, h.2.2⟩
/-- a list of records that came in -/
def ArgRs (w : World) (v : Value) (L : List RP) : Prop :=
  ∃ A c, v = .slice A L.length c ∧ L.length ≤ c ∧ (L ≠ [] → ∃ g o, A = some ⟨g, o, none⟩ ∧ g < w.heap.size ∧ ∀ k (h : k < L.length), w.rangeAt g (o + k * 12) (rP L[k])) ∧ ∀ p ∈ L, RPin w p
theorem ArgRs.no {w w' : World} {v : Value} {L : List RP} (h : ArgRs w v L) (hk : Kp No w w') : ArgRs w' v L := by
  obtain ⟨A, c, e, hc, h, hp⟩ := h
  refine ⟨A, c, e, hc, fun hne => ?_, fun p hq => (hp p hq).no hk⟩
  obtain ⟨g, o, e1, h1, h2⟩ := h hne
  exact ⟨g, o, e1, Nat.lt_of_lt_of_le h1 hk.size, fun k hk' => range_kp (h2 k hk') hk (fun m => m)⟩
theorem ArgRs.cells {w : World} {A : Option Addr} {n c : Nat} {L : List RP} (h : ArgRs w (.slice A n c) L) {j : Nat} (hj : j < L.length) :
    ∃ g o, A = some ⟨g, o, none⟩ ∧ ∀ i u, (rP L[j])[i]? = some u → w.cell? ⟨g, o + j * 12 + i, none⟩ = some u := by
  obtain ⟨A', c', e, _, h, _⟩ := h
  injection e with e1 _ _
  subst e1
  obtain ⟨g, o, e1, _, h2⟩ := h (fun e => by rw [e] at hj; exact absurd hj (Nat.not_lt_zero _))
  exact ⟨g, o, e1, fun i u hu => h2 j hj i u hu⟩
set_option maxRecDepth 100000 in
theorem open_recs {H : Type} {enc : TypeId × Value → H} {W : World} {b0 : Nat} {v : Value} {d : DataW H} {ps : List MemPlace} (hv : Value.okWide Try.prog W .any b0 43 v) (h : DataW.Trod enc Try.prog W 0 (fun _ => true) true 43 v d ps)
    (hz : ∀ n ∈ d.weights Try.prog 43, n ≤ reachBytes) :
    ∃ (A : Option Addr) (n c : Nat) (L : List RP), v = .slice A n c ∧ n = L.length ∧ ArgRs W (.slice A n c) L ∧ L.length ≤ 1034834473200 := by
  obtain ⟨a, len, cap, rfl⟩ := okWide_slice Try.underlying43 hv
  obtain ⟨fuel, hf⟩ := h
  have hf : DataW.trod enc Try.prog W 0 (fun _ => true) true fuel 43 [.slice a len cap] = some (d, ps) := hf
  obtain ⟨l, A, c, e, hc, hb, hg, hr⟩ := open_rows (size := 12) (bytes := 136) (cells := rP) (Good := RPin W) Try.underlying43 (by kernel_rfl) (by kernel_rfl) (by decide) (fun _ => rfl) ({}, .slice none 0 0, .slice none 0 0)
    (fun m cs x h hx => by obtain ⟨r, gv, rv, h1, h2, h3, h4⟩ := open_recC h hx; exact ⟨(r, gv, rv), h1, h2, h3, h4⟩) hf hz
  injection e with e1 e2 e3
  subst e1 e2 e3
  exact ⟨_, _, _, l, rfl, rfl, ⟨_, _, rfl, hc, hr, hg⟩, by unfold reachBytes at hb; omega⟩
end Go.Proofs.Ytifdceofglocdaa
