/- Several texts of this claim in one. No condition beyond what each theorem states. -/
import Derived.Test.YtifdceofglocdaaB04
import Derived.Test.YtifdceofglocdaaB02
import Derived.Test.YtifdceofglocdaaB01
import Derived.OwnWalk
import Derived.PlainAid
import Derived.Deep.QuietTactic
import Derived.BigQuiet
import Derived.Outline
/- Typed slices of ints in memory, and paths (book). No condition beyond what each theorem states. -/
namespace Go.Proofs.Ytifdceofglocdaa
open Go Go.RowKit Go.PlainAid

/-- a slice of ints whose block is of ints -/
def SlI (w : World) (v : Value) (L : List Int) : Prop := ∃ A c, v = .slice A L.length c ∧ L.length ≤ c ∧ (L ≠ [] → ∃ g o cs, A = some ⟨g, o, none⟩ ∧ Bk w g 3 cs ∧ w.rangeAt g o (ints L))
theorem SlI.arg {w : World} {v : Value} {L : List Int} (h : SlI w v L) : ArgInts w v L := by
  obtain ⟨A, c, e, hc, h⟩ := h
  refine ⟨A, c, e, hc, fun hx => ?_⟩
  obtain ⟨g, o, cs, e1, _, h2⟩ := h (fun e => hx (by rw [e]; rfl))
  exact ⟨g, o, e1, h2⟩
theorem SlI.kp {w w' : World} {v : Value} {L : List Int} {M : Nat → Prop} (h : SlI w v L) (hk : Kp M w w') (hm : ∀ g cs, Bk w g 3 cs → ¬ M g) : SlI w' v L := by
  obtain ⟨A, c, e, hc, h⟩ := h
  refine ⟨A, c, e, hc, fun hx => ?_⟩
  obtain ⟨g, o, cs, e1, h1, h2⟩ := h hx
  exact ⟨g, o, cs, e1, h1.kp hk (hm g cs h1), range_kp h2 hk (hm g cs h1)⟩
theorem SlI.no {w w' : World} {v : Value} {L : List Int} (h : SlI w v L) (hk : Kp No w w') : SlI w' v L := h.kp hk fun _ _ _ m => m
theorem SlI.nil (w : World) (A : Option Addr) (c : Nat) : SlI w (.slice A 0 c) [] := ⟨A, c, rfl, Nat.zero_le _, fun h => absurd rfl h⟩
theorem own_bk {w : World} {B n size : Nat} {t : TypeId} {v : Value} {xs : List Value} (h : w.ownsRow B t size v n xs) : ∀ g, v.ownBlock = some g → ∃ cs, Bk w g t cs := by
  intro g hg
  rcases h.2 with ⟨e, _⟩ | ⟨g', cap, cur, e, _, hh, _⟩
  · rw [e] at hg; simp [Value.ownBlock] at hg
  · rw [e] at hg
    have : g' = g := by simpa [Value.ownBlock] using hg
    subst this
    exact ⟨cur.toList, by unfold Bk; rw [hh]⟩
theorem own_slI {w : World} {B : Nat} {v : Value} {L : List Int} (h : w.ownsRow B 3 1 v L.length (ints L)) : SlI w v L := by
  obtain ⟨A, c, e, hc⟩ := own_len h
  refine ⟨A, c, e, hc, fun hx => ?_⟩
  obtain ⟨g, cap, e2, _⟩ := own_form h (List.length_pos_iff.2 hx)
  rw [e] at e2
  injection e2 with e3 _ _
  obtain ⟨cs, hb⟩ := own_bk h g (by rw [e, e3]; rfl)
  refine ⟨g, 0, cs, e3, hb, ?_⟩
  have ha := own_argI h
  obtain ⟨g', o', c', e4, hr⟩ := ha.at_ (List.length_pos_iff.2 hx)
  rcases h.2 with ⟨e5, _⟩ | ⟨g5, cap5, cur5, e5, _⟩
  · rw [e, e3] at e5; cases e5
  · intro j v hv
    have := h.cells (g := g) (by rw [e, e3]; rfl) j v hv
    rwa [Addr.add_mid] at this

/-- the blocks of M are of these types -/
def Tys (M : Nat → Prop) (w : World) (ts : List TypeId) : Prop := ∀ k, M k → k < w.heap.size → ∃ t cs, Bk w k t cs ∧ t ∈ ts
theorem Tys.not {M : Nat → Prop} {w : World} {ts : List TypeId} (h : Tys M w ts) {g : Nat} {t : TypeId} {cs : List Value} (hb : Bk w g t cs) (ht : t ∉ ts) : ¬ M g := fun m => by
  obtain ⟨t', cs', hb', hm⟩ := h g m hb.lt
  by_cases e : t = t'
  · subst e; exact ht hm
  · exact hb.ne_ hb' e rfl
theorem wrm_tys {w : World} {b B : Nat} {v : Value} {l : List UInt8} (h : WrB w b B v l) : Tys (WrM b v) w [78, 5] := by
  rintro k (rfl | hm) hk
  · exact ⟨_, _, h.1, by simp⟩
  · obtain ⟨cs, hb⟩ := own_bk h.2 k hm
    exact ⟨_, cs, hb, by simp⟩
theorem no_tys (w : World) (ts : List TypeId) : Tys No w ts := fun _ m => m.elim
/-- which texts are paths -/
def vpP (l : List UInt8) : Bool := (path l).isSome
theorem vpP_len (l : List UInt8) (h : vpP l = true) : l.length ≤ 27 := path_len h
end Go.Proofs.Ytifdceofglocdaa

/- A grantor's book in plain words: grants, books, records; what a record does. No condition beyond what each theorem states. -/
namespace Go.Proofs.Ytifdceofglocdaa
open Go

structure Grt where
  id : Int := 0
  holder : Int := 0
  path : List UInt8 := []
  mode : Int := 0
  stamp : List Int := []
  term : Int := 0
deriving DecidableEq
structure Bok where
  next : Int := 0
  boots : Int := 0
  longest : Int := 0
  grants : List Grt := []
deriving DecidableEq
structure Rcd where
  kind : Int := 0
  grant : Grt := {}
  id : Int := 0
  stamp : List Int := []
  next : Int := 0
  boots : Int := 0
  longest : Int := 0
deriving DecidableEq
/-- the last counter of a stamp -/
def newestS (s : List Int) : Int := s.getLastD 0
def mayG (g : Grt) : Prop := cntI g.id ∧ nodeI g.holder ∧ vpP g.path = true ∧ modeI g.mode ∧ validS g.stamp = true ∧ g.stamp ≠ [] ∧ g.id ≤ newestS g.stamp ∧ termI g.term
instance (g : Grt) : Decidable (mayG g) := by unfold mayG; infer_instance
def headsB (next boots : Int) : Prop := 1 ≤ next ∧ next ≤ 1099511627777 ∧ 0 ≤ boots ∧ boots ≤ 1099511627776
instance (n b : Int) : Decidable (headsB n b) := by unfold headsB; infer_instance
def validB (b : Bok) : Prop := headsB b.next b.boots ∧ (b.longest = 0 ∨ termI b.longest) ∧ b.grants.length ≤ 6 ∧ (∀ g ∈ b.grants, mayG g ∧ newestS g.stamp < b.next) ∧ b.grants.Pairwise (fun x y => x.id < y.id)
instance (b : Bok) : Decidable (validB b) := by unfold validB; infer_instance
def newB : Bok := { next := 1 }
/-- may it be a record? -/
def mayR (r : Rcd) : Prop :=
  if r.kind = 1 then headsB r.next r.boots ∧ r = { kind := 1, next := r.next, boots := r.boots }
  else if r.kind = 2 then termI r.longest ∧ r = { kind := 2, longest := r.longest }
  else if r.kind = 3 then mayG r.grant ∧ r = { kind := 3, grant := r.grant }
  else if r.kind = 4 then mayG r.grant ∧ newestS r.grant.stamp = r.grant.id ∧ r = { kind := 4, grant := r.grant }
  else if r.kind = 5 then cntI r.id ∧ validS r.stamp = true ∧ r.stamp ≠ [] ∧ r = { kind := 5, id := r.id, stamp := r.stamp }
  else if r.kind = 6 then cntI r.id ∧ r = { kind := 6, id := r.id }
  else if r.kind = 7 then r = { kind := 7 }
  else False
instance (r : Rcd) : Decidable (mayR r) := by unfold mayR; infer_instance
/-- a grant more, by its id -/
def insG : List Grt → Grt → List Grt
  | [], g => [g]
  | a :: l, g => if a.id < g.id then a :: insG l g else g :: a :: l
def delG (l : List Grt) (id : Int) : List Grt := l.filter fun g => decide (g.id ≠ id)
def setG (l : List Grt) (id : Int) (s : List Int) : List Grt := l.map fun g => if g.id = id then { g with stamp := s } else g
def hasG (l : List Grt) (id : Int) : Bool := l.any fun g => decide (g.id = id)
/-- what a record does to a book that it may come to -/
def changeB (b : Bok) (r : Rcd) : Option Bok :=
  if r.kind = 1 then (if b = newB then some { b with next := r.next, boots := r.boots } else none)
  else if r.kind = 2 then (if b.longest < r.longest then some { b with longest := r.longest } else none)
  else if r.kind = 3 then (if hasG b.grants r.grant.id = true ∨ b.next ≤ newestS r.grant.stamp then none else some { b with grants := insG b.grants r.grant })
  else if r.kind = 4 then (if r.grant.id = b.next then some { b with next := b.next + 1, grants := insG b.grants r.grant } else none)
  else if r.kind = 5 then (if hasG b.grants r.id = true ∧ newestS r.stamp = b.next then some { b with next := b.next + 1, grants := setG b.grants r.id r.stamp } else none)
  else if r.kind = 6 then (if hasG b.grants r.id = true then some { b with grants := delG b.grants r.id } else none)
  else some { b with boots := b.boots + 1 }
def limitB (b : Bok) (k : Int) : Int :=
  if (k = 4 ∨ k = 5) ∧ 1099511627776 < b.next ∨ k = 7 ∧ b.boots = 1099511627776 then 66
  else if (k = 3 ∨ k = 4) ∧ b.grants.length = 6 then 51 else 0
def applyB (b : Bok) (r : Rcd) : Bok × Int :=
  if ¬ (validB b ∧ mayR r) then ({}, 43)
  else if limitB b r.kind ≠ 0 then ({}, limitB b r.kind)
  else match changeB b r with
    | none => ({}, 43)
    | some c => (c, 0)
/-- the fewest records that make a book -/
def dumpB (b : Bok) : List Rcd :=
  if validB b then { kind := 1, next := b.next, boots := b.boots } :: ((if b.longest = 0 then [] else [{ kind := 2, longest := b.longest }]) ++ b.grants.map fun g => { kind := 3, grant := g }) else []

theorem mem_insG : ∀ (l : List Grt) (g x : Grt), x ∈ insG l g ↔ x = g ∨ x ∈ l
  | [], g, x => by simp [insG]
  | a :: l, g, x => by
    unfold insG
    split
    · rw [List.mem_cons, mem_insG l g x, List.mem_cons]
      constructor
      · rintro (h | h | h)
        · exact .inr (.inl h)
        · exact .inl h
        · exact .inr (.inr h)
      · rintro (h | h | h)
        · exact .inr (.inl h)
        · exact .inl h
        · exact .inr (.inr h)
    · rw [List.mem_cons, List.mem_cons]
theorem insG_len : ∀ (l : List Grt) (g : Grt), (insG l g).length = l.length + 1
  | [], _ => rfl
  | a :: l, g => by
    unfold insG
    split
    · rw [List.length_cons, insG_len l g, List.length_cons]
    · rfl
theorem hasG_iff (l : List Grt) (id : Int) : hasG l id = true ↔ ∃ g ∈ l, g.id = id := by
  unfold hasG
  simp
theorem insG_sorted : ∀ (l : List Grt) (g : Grt), l.Pairwise (fun x y => x.id < y.id) → (∀ x ∈ l, x.id ≠ g.id) → (insG l g).Pairwise (fun x y => x.id < y.id)
  | [], g, _, _ => by simp [insG]
  | a :: l, g, h, hn => by
    rw [List.pairwise_cons] at h
    unfold insG
    split
    · rename_i h1
      rw [List.pairwise_cons]
      refine ⟨fun x hx => ?_, insG_sorted l g h.2 fun x hx => hn x (List.mem_cons_of_mem _ hx)⟩
      rcases (mem_insG l g x).1 hx with rfl | hx
      · exact h1
      · exact h.1 x hx
    · rename_i h1
      have h2 := hn a (List.mem_cons_self ..)
      rw [List.pairwise_cons]
      refine ⟨fun x hx => ?_, List.pairwise_cons.2 h⟩
      rcases List.mem_cons.1 hx with rfl | hx
      · omega
      · have := h.1 x hx; omega
/-- a grant behind all others -/
theorem insG_last : ∀ (l : List Grt) (g : Grt), (∀ x ∈ l, x.id < g.id) → insG l g = l ++ [g]
  | [], _, _ => rfl
  | a :: l, g, h => by
    unfold insG
    rw [if_pos (h a (List.mem_cons_self ..)), insG_last l g fun x hx => h x (List.mem_cons_of_mem _ hx)]
    rfl
theorem setG_map (l : List Grt) (id : Int) (s : List Int) : (setG l id s).map (·.id) = l.map (·.id) := by
  unfold setG
  rw [List.map_map]
  refine List.map_congr_left fun g _ => ?_
  show (if g.id = id then { g with stamp := s } else g).id = g.id
  split <;> rfl
theorem pw_map (l : List Grt) : l.Pairwise (fun x y => x.id < y.id) ↔ (l.map (·.id)).Pairwise (· < ·) := by
  rw [List.pairwise_map]
/-- what a record leaves is a book; its counter and its heads do not fall -/
theorem apply_ok {b : Bok} {r : Rcd} (h : (applyB b r).2 = 0) : validB (applyB b r).1 ∧ b.next ≤ (applyB b r).1.next ∧ b.boots ≤ (applyB b r).1.boots ∧ b.longest ≤ (applyB b r).1.longest ∧
    ((r.kind = 4 → (applyB b r).1.next = b.next + 1 ∧ r.grant.stamp ≠ [] ∧ newestS r.grant.stamp = b.next) ∧ (r.kind = 5 → (applyB b r).1.next = b.next + 1 ∧ r.stamp ≠ [] ∧ newestS r.stamp = b.next)) := by
  unfold applyB at h ⊢
  split at h
  · cases h
  · rename_i h1
    have hv := Classical.not_not.1 h1
    rw [if_neg h1]
    split at h
    · rename_i h2; exact absurd h h2
    · rename_i h2
      rw [if_neg h2]
      have h2 := Classical.not_not.1 h2
      obtain ⟨⟨hh, hlo, hln, hg, hs⟩, hr⟩ := hv
      obtain ⟨n1, n2, b1, b2⟩ := hh
      cases hc : changeB b r with
      | none => rw [hc] at h; cases h
      | some c =>
        simp only
        unfold limitB at h2
        unfold changeB at hc
        unfold mayR at hr
        by_cases k1 : r.kind = 1
        · rw [if_pos k1] at hc hr
          split at hc
          · rename_i hb
            injection hc with hc
            subst hc
            rw [hb] at hlo hln hg hs ⊢
            obtain ⟨⟨r1, r2, r3, r4⟩, _⟩ := hr
            exact ⟨⟨⟨r1, r2, r3, r4⟩, hlo, hln, (fun g hg2 => by cases hg2), hs⟩, r1, r3, Int.le_refl _, fun e => by omega, fun e => by omega⟩
          · cases hc
        rw [if_neg k1] at hc hr
        by_cases k2 : r.kind = 2
        · rw [if_pos k2] at hc hr
          split at hc
          · rename_i hb
            injection hc with hc
            subst hc
            exact ⟨⟨⟨n1, n2, b1, b2⟩, .inr hr.1, hln, hg, hs⟩, Int.le_refl _, Int.le_refl _, Int.le_of_lt hb, fun e => by omega, fun e => by omega⟩
          · cases hc
        rw [if_neg k2] at hc hr
        by_cases k3 : r.kind = 3
        · rw [if_pos k3] at hc hr
          split at hc
          · cases hc
          · rename_i hb
            injection hc with hc
            subst hc
            have hno : ∀ x ∈ b.grants, x.id ≠ r.grant.id := fun x hx e => hb (.inl ((hasG_iff _ _).2 ⟨x, hx, e⟩))
            have hlt : newestS r.grant.stamp < b.next := by
              rcases Int.lt_or_le (newestS r.grant.stamp) b.next with h | h
              · exact h
              · exact absurd (.inr h) hb
            refine ⟨⟨⟨n1, n2, b1, b2⟩, hlo, ?_, fun g hg2 => ?_, insG_sorted _ _ hs hno⟩, Int.le_refl _, Int.le_refl _, Int.le_refl _, fun e => by omega, fun e => by omega⟩
            · show (insG b.grants r.grant).length ≤ 6
              rw [insG_len]
              split at h2
              · cases h2
              · split at h2
                · cases h2
                · rename_i h3
                  have : b.grants.length ≠ 6 := fun e => h3 ⟨.inl k3, e⟩
                  omega
            · rcases (mem_insG _ _ g).1 hg2 with rfl | hg2
              · exact ⟨hr.1, hlt⟩
              · exact hg g hg2
        rw [if_neg k3] at hc hr
        by_cases k4 : r.kind = 4
        · rw [if_pos k4] at hc hr
          split at hc
          · rename_i hb
            injection hc with hc
            subst hc
            obtain ⟨m1, m2, _⟩ := hr
            have hno : ∀ x ∈ b.grants, x.id ≠ r.grant.id := fun x hx e => by
              obtain ⟨⟨_, _, _, _, _, _, h6, _⟩, h7⟩ := hg x hx
              omega
            have hst : r.grant.stamp ≠ [] := m1.2.2.2.2.2.1
            have hnx : b.next ≤ 1099511627776 := by
              split at h2
              · cases h2
              · rename_i h3
                rcases Int.lt_or_le 1099511627776 b.next with h | h
                · exact absurd (.inl ⟨.inl k4, h⟩) h3
                · exact h
            refine ⟨⟨⟨by show 1 ≤ b.next + 1; omega, by show b.next + 1 ≤ _; omega, b1, b2⟩, hlo, ?_, fun g hg2 => ?_, insG_sorted _ _ hs hno⟩, by show b.next ≤ b.next + 1; omega, Int.le_refl _, Int.le_refl _, fun _ => ⟨rfl, hst, by rw [m2, hb]⟩, fun e => by omega⟩
            · show (insG b.grants r.grant).length ≤ 6
              rw [insG_len]
              split at h2
              · cases h2
              · split at h2
                · cases h2
                · rename_i h3
                  have : b.grants.length ≠ 6 := fun e => h3 ⟨.inr k4, e⟩
                  omega
            · rcases (mem_insG _ _ g).1 hg2 with rfl | hg2
              · exact ⟨m1, by show newestS r.grant.stamp < b.next + 1; omega⟩
              · obtain ⟨h6, h7⟩ := hg g hg2
                exact ⟨h6, by show newestS g.stamp < b.next + 1; omega⟩
          · cases hc
        rw [if_neg k4] at hc hr
        by_cases k5 : r.kind = 5
        · rw [if_pos k5] at hc hr
          split at hc
          · rename_i hb
            injection hc with hc
            subst hc
            obtain ⟨m1, m2, m3, _⟩ := hr
            have hnx : b.next ≤ 1099511627776 := by
              split at h2
              · cases h2
              · rename_i h3
                rcases Int.lt_or_le 1099511627776 b.next with h | h
                · exact absurd (.inl ⟨.inr k5, h⟩) h3
                · exact h
            refine ⟨⟨⟨by show 1 ≤ b.next + 1; omega, by show b.next + 1 ≤ _; omega, b1, b2⟩, hlo, ?_, fun g hg2 => ?_, ?_⟩, by show b.next ≤ b.next + 1; omega, Int.le_refl _, Int.le_refl _, fun e => by omega, fun _ => ⟨rfl, m3, hb.2⟩⟩
            · show (setG b.grants r.id r.stamp).length ≤ 6
              unfold setG
              rw [List.length_map]; exact hln
            · have hg2 : g ∈ setG b.grants r.id r.stamp := hg2
              unfold setG at hg2
              rw [List.mem_map] at hg2
              obtain ⟨x, hx, rfl⟩ := hg2
              obtain ⟨⟨a1, a2, a3, a4, a5, a6, a7, a8⟩, h7⟩ := hg x hx
              split
              · rename_i he
                refine ⟨⟨a1, a2, a3, a4, m2, m3, ?_, a8⟩, ?_⟩
                · show x.id ≤ newestS r.stamp
                  omega
                · show newestS r.stamp < b.next + 1
                  omega
              · exact ⟨⟨a1, a2, a3, a4, a5, a6, a7, a8⟩, by show newestS x.stamp < b.next + 1; omega⟩
            · show (setG b.grants r.id r.stamp).Pairwise _
              rw [pw_map, setG_map, ← pw_map]; exact hs
          · cases hc
        rw [if_neg k5] at hc hr
        by_cases k6 : r.kind = 6
        · rw [if_pos k6] at hc hr
          split at hc
          · injection hc with hc
            subst hc
            refine ⟨⟨⟨n1, n2, b1, b2⟩, hlo, ?_, fun g hg2 => ?_, ?_⟩, Int.le_refl _, Int.le_refl _, Int.le_refl _, fun e => by omega, fun e => by omega⟩
            · exact Nat.le_trans (List.length_filter_le _ _) hln
            · exact hg g (List.mem_filter.1 hg2).1
            · exact List.Pairwise.filter _ hs
          · cases hc
        rw [if_neg k6] at hc hr
        by_cases k7 : r.kind = 7
        · injection hc with hc
          subst hc
          have hb7 : b.boots ≠ 1099511627776 := fun e => by
            rw [if_pos (.inr ⟨k7, e⟩)] at h2
            cases h2
          exact ⟨⟨⟨n1, n2, by show 0 ≤ b.boots + 1; omega, by show b.boots + 1 ≤ _; omega⟩, hlo, hln, hg, hs⟩, Int.le_refl _, by show b.boots ≤ b.boots + 1; omega, Int.le_refl _, fun e => by omega, fun e => by omega⟩
        · rw [if_neg k7] at hr
          exact hr.elim
end Go.Proofs.Ytifdceofglocdaa

/- Small contracts: terms, stamps of the document, lists of ints copied and compared. No condition beyond what each theorem states. -/
namespace Go.Proofs.Ytifdceofglocdaa
open Go Go.RowKit Go.PlainAid

theorem Try.infoInt : (Try.prog.info? 3).map (fun i => (i.zero, i.size, i.bytes)) = some (some (.int .i64 0), 1, 8) := by kernel_rfl
/-- a list of ints of the call's own -/
def OwnI (w w' : World) (v : Value) (L : List Int) : Prop := w'.ownsRow w.heap.size 3 1 v L.length (ints L)
theorem OwnI.arg {w w' : World} {v : Value} {L : List Int} (h : OwnI w w' v L) : ArgInts w' v L := own_argI h
theorem OwnI.nil (w w' : World) : OwnI w w' (.slice none 0 0) [] := nil_own _ _ _ _

theorem rlegal_any (n : Int) (w : World) : Calls Try.prog 48 #[.int .i64 n] w fun e w' => e = .returned (.bool (decide (termI n))) ∧ w = w' := by
  go_enter Try.func48, Try.ntmps48
  by_cases h1 : 4 ≤ n <;> by_cases h2 : n ≤ 1048576
  all_goals
    have HS := Lib.hid (show decide (termI n) = decide (4 ≤ n ∧ n ≤ 1048576) from rfl)
    go_wp2
    go_ret
    exact ⟨ret_bool rfl (by rw [HS.out]; simp [h1, h2]), rfl⟩
theorem rmode_any (n : Int) (w : World) : Calls Try.prog 79 #[.int .i64 n] w fun e w' => e = .returned (.bool (decide (modeI n))) ∧ w = w' := by
  have HS := Lib.hid (show decide (modeI n) = decide (n = 1 ∨ n = 2) from rfl)
  go_enter Try.func79, Try.ntmps79
  by_cases h1 : n = 1
  · subst h1
    go_wp2
    go_ret
    exact ⟨ret_bool rfl (by rw [HS.out]; simp), rfl⟩
  · by_cases h2 : n = 2
    · subst h2
      go_wp2
      go_ret
      exact ⟨ret_bool rfl (by rw [HS.out]; simp), rfl⟩
    · have d1 : (n == 1) = false := by rw [beq_eq_false_iff_ne]; exact h1
      have d2 : (n == 2) = false := by rw [beq_eq_false_iff_ne]; exact h2
      go_wp2
      go_ret
      exact ⟨ret_bool rfl (by rw [HS.out]; simp [h1, h2]), rfl⟩
set_option maxRecDepth 100000 in
set_option maxHeartbeats 2000000 in
theorem eqI_any (v u : Value) (L M : List Int) (w : World) (hv : ArgInts w v L) (hu : ArgInts w u M) (hl : L.length ≤ maxLen) (hm : M.length ≤ maxLen) :
    Calls Try.prog 80 #[v, u] w fun e w' => e = .returned (.bool (decide (L = M))) ∧ Kp No w w' := by
  have HV := Lib.hid hv; have HU := Lib.hid hu
  obtain ⟨A, c, rfl, _, _⟩ := hv
  obtain ⟨A2, c2, rfl, _, _⟩ := hu
  unfold maxLen at hl hm
  by_cases hlen : L.length = M.length
  · have HLen := Lib.hid hlen
    have hne : ((L.length : Int) != (M.length : Int)) = false := by simp [hlen]
    go_enter Try.func80, Try.ntmps80
    clear hlen
    go_wp2
    clear hne
    go_loopw [13] (fun i wr => ∃ k : Nat, k ≤ L.length ∧ i = .int .i64 k ∧ Kp No w wr ∧ L.take k = M.take k) (fun i _ => L.length - (intOf i).toNat)
    case atStart => exact ⟨0, Nat.zero_le _, rfl, Kp.refl _ _, by simp⟩
    case round =>
      obtain ⟨k, hk, rfl, hK, hT⟩ := hrel
      have HK := Lib.hid hK; have HT := Lib.hid hT; clear hK hT
      by_cases hlt : k < L.length
      · have hk0 : (0 : Int) ≤ (k : Int) := by omega
        have hk1 : (k : Int) < (L.length : Int) := by omega
        have hlt2 : k < M.length := by have := HLen.out; omega
        have hk2 : (k : Int) < (M.length : Int) := by omega
        obtain ⟨g, o, c', e1, hxx⟩ := (HV.out.no HK.out).at_ hlt
        have hx := hxx k _ (List.getElem?_eq_getElem hlt)
        clear hxx
        injection e1 with e1 _ e1c
        subst e1 e1c
        obtain ⟨g2, o2, c2', e2, hyy⟩ := (HU.out.no HK.out).at_ hlt2
        have hy := hyy k _ (List.getElem?_eq_getElem hlt2)
        clear hyy
        injection e2 with e2 _ e2c
        subst e2 e2c
        have HTL := Lib.hid (show L.take (k + 1) = L.take k ++ [L[k]] from List.take_succ_eq_append_getElem hlt)
        have HTM := Lib.hid (show M.take (k + 1) = M.take k ++ [M[k]] from List.take_succ_eq_append_getElem hlt2)
        have HNE := Lib.hid (show L[k] ≠ M[k] → decide (L = M) = false from fun h => by
          rw [decide_eq_false_iff_not]; rintro rfl; exact h rfl)
        generalize L[k] = x at *
        generalize M[k] = y at *
        by_cases hxy : x = y
        · subst hxy
          have d1 : (x != x) = false := by simp
          clear hlt hlt2
          go_wp2
          go_quiet (fail)
          go_wp2
          go_roundw
          case rel => exact ⟨k + 1, by omega, by go_num, HK.out.drewN _, by rw [HTL.out, HTM.out, HT.out]⟩
          case measure => simp [intOf]; omega
        · have d1 : (x != y) = true := by rw [bne_iff_ne]; exact hxy
          have HXY := Lib.hid hxy
          clear hxy hlt hlt2
          go_wp2
          go_quiet (fail)
          go_wp2
          go_ret
          exact ⟨ret_bool rfl (HNE.out HXY.out).symm, HK.out.drewN _⟩
      · have hk1 : ¬ (k : Int) < (L.length : Int) := by omega
        have HE := Lib.hid (show decide (L = M) = true by
          rw [decide_eq_true_iff]
          have h1 := HT.out
          rwa [List.take_of_length_le (by omega), List.take_of_length_le (by have := HLen.out; omega)] at h1)
        clear hlt
        go_wp2
        go_ret
        exact ⟨ret_bool rfl HE.out.symm, HK.out⟩
  · have hne : ((L.length : Int) != (M.length : Int)) = true := by rw [bne_iff_ne]; omega
    have HE := Lib.hid (show decide (L = M) = false by rw [decide_eq_false_iff_not]; rintro rfl; exact hlen rfl)
    clear hlen
    go_enter Try.func80, Try.ntmps80
    go_wp2
    go_ret
    exact ⟨ret_bool rfl HE.out.symm, Kp.refl _ _⟩
theorem isNaN_any (n : Int) (w : World) : Calls Try.prog 101 #[.int .i64 n] w fun e w' => e = .returned (.bool false) ∧ w = w' := by
  go_enter Try.func101, Try.ntmps101
  go_wp2
  go_ret
  exact ⟨ret_bool rfl (by simp), rfl⟩
theorem cmpI_any (a b : Int) (w : World) : Calls Try.prog 91 #[.int .i64 a, .int .i64 b] w fun e w' => e = .returned (.int .i64 (cmpI a b)) ∧ w = w' := by
  go_enter Try.func91, Try.ntmps91
  go_wp2_with fail
  refine (isNaN_any _ _).mono ?_
  rintro e w' ⟨rfl, rfl⟩
  go_wp2_with fail
  refine (isNaN_any _ _).mono ?_
  rintro e w' ⟨rfl, rfl⟩
  have HS := Lib.hid (show cmpI a b = if a < b then -1 else if b < a then 1 else 0 from rfl)
  by_cases h1 : a < b
  · go_wp2
    go_ret
    exact ⟨ret_int rfl (by rw [HS.out, if_pos h1]), rfl⟩
  · by_cases h2 : b < a
    · go_wp2
      go_ret
      exact ⟨ret_int rfl (by rw [HS.out, if_neg (by omega), if_pos h2]), rfl⟩
    · go_wp2
      go_ret
      exact ⟨ret_int rfl (by rw [HS.out, if_neg (by omega), if_neg (by omega)]), rfl⟩
theorem cmpI_cases (a b : Int) : (cmpI a b = -1 ∧ a < b) ∨ (cmpI a b = 1 ∧ b < a) ∨ (cmpI a b = 0 ∧ a = b) := by
  unfold cmpI
  by_cases h1 : a < b
  · rw [if_pos h1]; exact .inl ⟨rfl, h1⟩
  · by_cases h2 : b < a
    · rw [if_neg h1, if_pos h2]; exact .inr (.inl ⟨rfl, h2⟩)
    · rw [if_neg h1, if_neg h2]; exact .inr (.inr ⟨rfl, by omega⟩)
theorem tlegal_any (n : Int) (w : World) : Calls Try.prog 45 #[.int .i64 n] w fun e w' => e = .returned (.bool (decide (termI n))) ∧ w = w' := by
  go_enter Try.func45, Try.ntmps45
  by_cases h1 : 4 ≤ n <;> by_cases h2 : n ≤ 1048576
  all_goals
    have HS := Lib.hid (show decide (termI n) = decide (4 ≤ n ∧ n ≤ 1048576) from rfl)
    go_wp2
    go_ret
    exact ⟨ret_bool rfl (by rw [HS.out]; simp [h1, h2]), rfl⟩
set_option maxHeartbeats 1000000 in
theorem cloneI_any (g o c : Nat) (L : List Int) (w : World) (hv : ArgInts w (.slice (some ⟨g, o, none⟩) L.length c) L) (hl : L.length ≤ 17592186044416) :
    Calls Try.prog 73 #[.slice (some ⟨g, o, none⟩) L.length c] w fun e w' => ∃ r, e = .returned r ∧ OwnI w w' r L ∧ Kp No w w' := by
  have HV := Lib.hid hv; clear hv
  have hq := fun W => Lib.run_eql_slice_nil (P := Try.prog) W 28 3 (some ⟨g, o, none⟩) L.length c 0 0 Try.underlying28
  go_enter Try.func73, Try.ntmps73
  go_wp2_with (at_builtin; refine wpList_appV _ rfl _ _ 28 rfl w.heap.size 3 _ 8 Try.underlying28 Try.infoInt rfl _ 0 [] rfl (own_fresh _ _ _ (Nat.le_refl _)) (some ⟨g, o, none⟩) L.length c (ints L) rfl (by simp) (by exact (HV.out.no ((Kp.refl No _).alloc _)).cs.1) (ints_one _) (by omega) (by omega) (by simp) ?_; intro v1 w1 hown1 hk1 hat1; simp only [Nat.zero_add, List.nil_append] at hown1)
  have hk3 := ((Kp.refl No w).alloc (.cells #[] 3)).then_ hk1 fun i hi e => by
    have e : Value.ownBlock (.slice (some ⟨w.heap.size, 0, none⟩) 0 0) = some i := e
    simp [Value.ownBlock] at e; omega
  go_ret
  exact ⟨_, rfl, hown1, hk3⟩

set_option maxHeartbeats 1000000 in
theorem rvalidS_any (v : Value) (L : List Int) (w : World) (hv : ArgInts w v L) (_hl : L.length ≤ maxLen) :
    Calls Try.prog 77 #[v] w fun e w' => e = .returned (.bool (validS L)) ∧ w = w' := by
  have HV := Lib.hid hv
  obtain ⟨A, c, rfl, hc, _⟩ := hv
  go_enter Try.func77, Try.ntmps77
  by_cases h4 : L.length ≤ 4
  · have h4' : ¬ 4 < (L.length : Int) := by omega
    have HS := Lib.hid (show validS L = L.all okN by unfold validS; rw [decide_eq_true h4]; simp)
    go_wp2
    go_loopw [3] (fun i wr => ∃ k : Nat, k ≤ L.length ∧ i = .int .i64 k ∧ wr = w ∧ (L.take k).all okN = true) (fun i _ => L.length - (intOf i).toNat)
    case atStart => exact ⟨0, Nat.zero_le _, rfl, rfl, by simp⟩
    case round =>
      obtain ⟨k, hk, rfl, rfl, hF⟩ := hrel
      have HF := Lib.hid hF; clear hF
      by_cases hlt : k < L.length
      · have hk0 : (0 : Int) ≤ (k : Int) := by omega
        have hk1 : (k : Int) < (L.length : Int) := by omega
        obtain ⟨g, o, c', e1, hxx⟩ := HV.out.at_ hlt
        have hx := hxx k _ (List.getElem?_eq_getElem hlt)
        clear hxx
        injection e1 with e1 _ e1c
        subst e1 e1c
        have HT := Lib.hid (all_take okN hlt)
        have HM := Lib.hid (show okN L[k] = false → L.all okN = false from fun h => by
          rw [Bool.eq_false_iff]; intro ha
          have := List.all_eq_true.1 ha _ (List.getElem_mem hlt)
          rw [h] at this; cases this)
        generalize L[k] = x at *
        by_cases h1 : x < 1
        · have HO := Lib.hid (show okN x = false by unfold okN; simp; omega)
          go_wp2
          go_ret
          exact ⟨ret_bool rfl (by rw [HS.out, HM.out HO.out]), rfl⟩
        · by_cases h2 : 1099511627776 < x
          · have HO := Lib.hid (show okN x = false by unfold okN; simp; omega)
            go_wp2
            go_ret
            exact ⟨ret_bool rfl (by rw [HS.out, HM.out HO.out]), rfl⟩
          · have HO := Lib.hid (show okN x = true by unfold okN; simp; omega)
            go_wp2
            go_roundw
            case rel => exact ⟨k + 1, by omega, by go_num, by trivial, by rw [HT.out, HF.out, HO.out]; rfl⟩
            case measure => simp [intOf]; omega
      · have hk' : k = L.length := by omega
        have hall : L.all okN = true := by have := HF.out; rwa [hk', List.take_length] at this
        have HA := Lib.hid hall; clear hall hk'
        have hk1 : ¬ (k : Int) < (L.length : Int) := by omega
        go_wp2
        go_ret
        exact ⟨ret_bool rfl (by rw [HS.out, HA.out]), rfl⟩
  · have h4' : 4 < (L.length : Int) := by omega
    have HS := Lib.hid (show validS L = false by unfold validS; rw [decide_eq_false h4]; simp)
    go_wp2
    go_ret
    exact ⟨ret_bool rfl HS.out.symm, rfl⟩

theorem take_sn (L : List Int) {k : Nat} (hk : k < L.length) : ints (L.take (k + 1)) = ints (L.take k) ++ [.int .i64 L[k]] := by
  rw [List.take_succ_eq_append_getElem hk, ints_append]; rfl
set_option maxHeartbeats 1000000 in
theorem copyS_any (v : Value) (L : List Int) (w : World) (hv : ArgInts w v L) (hl : L.length ≤ 17592186043904) :
    Calls Try.prog 41 #[v] w fun e w' => ∃ r, e = .returned r ∧ OwnI w w' r L ∧ Kp No w w' := by
  have HV := Lib.hid hv
  obtain ⟨A, c, rfl, hc, _⟩ := hv
  go_enter Try.func41, Try.ntmps41
  go_wp2
  go_loopw [4, 3] (fun i o wr => ∃ k : Nat, k ≤ L.length ∧ i = .int .i64 k ∧ wr.ownsRow w.heap.size 3 1 o k (ints (L.take k)) ∧ Kp No w wr) (fun i _ _ => L.length - (intOf i).toNat)
  case atStart => exact ⟨0, Nat.zero_le _, rfl, nil_own _ _ _ _, Kp.refl _ _⟩
  case round =>
    obtain ⟨k, hk, rfl, hown, hkp⟩ := hrel
    by_cases hlt : k < L.length
    · have hk0 : (0 : Int) ≤ (k : Int) := by omega
      have hk1 : (k : Int) < (L.length : Int) := by omega
      obtain ⟨g, o, c', e1, hxx⟩ := (HV.out.no hkp).at_ hlt
      have hx := hxx k _ (List.getElem?_eq_getElem hlt)
      clear hxx
      injection e1 with e1 _ e1c
      subst e1 e1c
      have HT := Lib.hid (take_sn L hlt)
      generalize L[k] = x at *
      have hsz := hkp.size
      go_wp2_with (at_builtin; refine wpList_app1 _ rfl _ _ 28 rfl w.heap.size 3 _ 1 8 Try.underlying28 Try.infoInt rfl (by omega) _ k (ints (L.take k)) rfl (hown.alloc _) _ _ _ rfl (Bk.new' (by simp) rfl) rfl (by simp [Value.oneCell']) (by omega) (by omega) (by simp; omega) ?_; intro g2 cap2 w2 hown2 hk2 hat2)
      have hk4 := (hkp.alloc (.cells #[.int .i64 x] 3)).then_ hk2 fun i hi e => by have := hown.lt i e; omega
      go_roundw
      case rel => exact ⟨k + 1, by omega, by go_num, by rw [HT.out]; exact hown2, hk4⟩
      case measure => simp [intOf]; omega
    · have hk' : k = L.length := by omega
      have hT : L.take k = L := by rw [hk', List.take_length]
      rw [hT, hk'] at hown
      have HO := Lib.hid hown
      clear hk' hT hown
      have hk1 : ¬ (k : Int) < (L.length : Int) := by omega
      go_wp2
      go_ret
      exact ⟨_, rfl, HO.out, hkp⟩

end Go.Proofs.Ytifdceofglocdaa

/- The document's SameInts by contract. No condition beyond what each theorem states. -/
namespace Go.Proofs.Ytifdceofglocdaa
open Go Go.RowKit Go.PlainAid

set_option maxRecDepth 100000 in
set_option maxHeartbeats 2000000 in
theorem sameInts_any (v u : Value) (L M : List Int) (w : World) (hv : ArgInts w v L) (hu : ArgInts w u M) (hl : L.length ≤ maxLen) (hm : M.length ≤ maxLen) :
    Calls Try.prog 67 #[v, u] w fun e w' => e = .returned (.bool (decide (L = M))) ∧ Kp No w w' := by
  have HV := Lib.hid hv; have HU := Lib.hid hu
  obtain ⟨A, c, rfl, _, _⟩ := hv
  obtain ⟨A2, c2, rfl, _, _⟩ := hu
  unfold maxLen at hl hm
  by_cases hlen : L.length = M.length
  · have HLen := Lib.hid hlen
    have hne : ((L.length : Int) != (M.length : Int)) = false := by simp [hlen]
    go_enter Try.func67, Try.ntmps67
    clear hlen
    go_wp2
    clear hne
    go_loopw [5] (fun i wr => ∃ k : Nat, k ≤ L.length ∧ i = .int .i64 k ∧ Kp No w wr ∧ L.take k = M.take k) (fun i _ => L.length - (intOf i).toNat)
    case atStart => exact ⟨0, Nat.zero_le _, rfl, Kp.refl _ _, by simp⟩
    case round =>
      obtain ⟨k, hk, rfl, hK, hT⟩ := hrel
      have HK := Lib.hid hK; have HT := Lib.hid hT; clear hK hT
      by_cases hlt : k < L.length
      · have hk0 : (0 : Int) ≤ (k : Int) := by omega
        have hk1 : (k : Int) < (L.length : Int) := by omega
        have hlt2 : k < M.length := by have := HLen.out; omega
        have hk2 : (k : Int) < (M.length : Int) := by omega
        obtain ⟨g, o, c', e1, hxx⟩ := (HV.out.no HK.out).at_ hlt
        have hx := hxx k _ (List.getElem?_eq_getElem hlt)
        clear hxx
        injection e1 with e1 _ e1c
        subst e1 e1c
        obtain ⟨g2, o2, c2', e2, hyy⟩ := (HU.out.no HK.out).at_ hlt2
        have hy := hyy k _ (List.getElem?_eq_getElem hlt2)
        clear hyy
        injection e2 with e2 _ e2c
        subst e2 e2c
        have HTL := Lib.hid (show L.take (k + 1) = L.take k ++ [L[k]] from List.take_succ_eq_append_getElem hlt)
        have HTM := Lib.hid (show M.take (k + 1) = M.take k ++ [M[k]] from List.take_succ_eq_append_getElem hlt2)
        have HNE := Lib.hid (show L[k] ≠ M[k] → decide (L = M) = false from fun h => by
          rw [decide_eq_false_iff_not]; rintro rfl; exact h rfl)
        generalize L[k] = x at *
        generalize M[k] = y at *
        by_cases hxy : x = y
        · subst hxy
          have d1 : (x != x) = false := by simp
          clear hlt hlt2
          go_wp2
          go_quiet (fail)
          go_wp2
          go_roundw
          case rel => exact ⟨k + 1, by omega, by go_num, HK.out.drewN _, by rw [HTL.out, HTM.out, HT.out]⟩
          case measure => simp [intOf]; omega
        · have d1 : (x != y) = true := by rw [bne_iff_ne]; exact hxy
          have HXY := Lib.hid hxy
          clear hxy hlt hlt2
          go_wp2
          go_quiet (fail)
          go_wp2
          go_ret
          exact ⟨ret_bool rfl (HNE.out HXY.out).symm, HK.out.drewN _⟩
      · have hk1 : ¬ (k : Int) < (L.length : Int) := by omega
        have HE := Lib.hid (show decide (L = M) = true by
          rw [decide_eq_true_iff]
          have h1 := HT.out
          rwa [List.take_of_length_le (by omega), List.take_of_length_le (by have := HLen.out; omega)] at h1)
        clear hlt
        go_wp2
        go_ret
        exact ⟨ret_bool rfl HE.out.symm, HK.out⟩
  · have hne : ((L.length : Int) != (M.length : Int)) = true := by rw [bne_iff_ne]; omega
    have HE := Lib.hid (show decide (L = M) = false by rw [decide_eq_false_iff_not]; rintro rfl; exact hlen rfl)
    clear hlen
    go_enter Try.func67, Try.ntmps67
    go_wp2
    go_ret
    exact ⟨ret_bool rfl HE.out.symm, Kp.refl _ _⟩
end Go.Proofs.Ytifdceofglocdaa

/- A grantor's records as bytes, in plain words. No condition beyond what each theorem states. -/
namespace Go.Proofs.Ytifdceofglocdaa
open Go

/-- the bytes of a record -/
def bodyR (r : Rcd) : List UInt8 := nS r.kind ++
  (if r.kind = 1 then nS r.next ++ nS r.boots
  else if r.kind = 2 then nS r.longest
  else if r.kind = 3 ∨ r.kind = 4 then nS r.grant.id ++ (nS r.grant.holder ++ (textS r.grant.path ++ (nS r.grant.mode ++ (nS r.grant.term ++ cS r.grant.stamp))))
  else if r.kind = 5 then nS r.id ++ cS r.stamp
  else if r.kind = 6 then nS r.id
  else [])
def encR (r : Rcd) : Option (List UInt8) := if mayR r then some (bodyR r) else none
/-- the record that is taken up from bytes, loosely -/
def takeR (most : Nat) (b : List UInt8) : Rcd :=
  let a0 := rdNum (b, 0)
  if a0.1 = 1 then
    let a1 := rdNum a0.2
    let a2 := rdNum a1.2
    { kind := a0.1, next := a1.1, boots := a2.1 }
  else if a0.1 = 2 then
    let a1 := rdNum a0.2
    { kind := a0.1, longest := a1.1 }
  else if a0.1 = 3 ∨ a0.1 = 4 then
    let a1 := rdNum a0.2
    let a2 := rdNum a1.2
    let a3 := rdText most a2.2
    let a4 := rdNum a3.2
    let a5 := rdNum a4.2
    let a6 := rdCnts a5.2
    { kind := a0.1, grant := { id := a1.1, holder := a2.1, path := a3.1, mode := a4.1, term := a5.1, stamp := a6.1.map Int.ofNat } }
  else if a0.1 = 5 then
    let a1 := rdNum a0.2
    let a2 := rdCnts a1.2
    { kind := a0.1, id := a1.1, stamp := a2.1.map Int.ofNat }
  else if a0.1 = 6 then
    let a1 := rdNum a0.2
    { kind := a0.1, id := a1.1 }
  else { kind := a0.1 }
def decR (b : List UInt8) : Option Rcd := if encR (takeR b.length b) = some b then some (takeR b.length b) else none

theorem cnt_of_valid {s : List Int} (h : validS s = true) : s.length ≤ 4 ∧ ∀ x ∈ s, cntI x := by
  unfold validS at h
  rw [Bool.and_eq_true, decide_eq_true_iff, List.all_eq_true] at h
  refine ⟨h.1, fun x hx => ?_⟩
  have := h.2 x hx
  unfold okN at this
  rw [decide_eq_true_iff] at this
  unfold cntI
  omega
theorem stampI_of {s : List Int} (h : validS s = true) : stampI s := cnt_of_valid h
theorem rd_t2 {most : Nat} (t r : List UInt8) (h : t.length ≤ most) (hm : most < 9223372036854775808) : rdText most (textS t ++ r, 0) = (t, (r, 0)) := by
  have e : textS t ++ r = numS t.length ++ (t ++ r) := by simp [textS]
  simp only [rdText, e]
  rw [take_num t.length (t ++ r) (by omega)]
  simp only [ne_eq, not_true_eq_false, if_false]
  rw [if_neg (by omega), if_neg (by simp), List.drop_left' rfl, List.take_left' rfl]
  congr 2
  rw [← List.drop_drop, List.drop_left' rfl, List.drop_left' rfl]
/-- a record's bytes, whatever stands behind them, are taken up as the record -/
theorem take_bodyR (r : Rcd) (hr : mayR r) (most : Nat) (hm : most < 9223372036854775808) (hp : r.grant.path.length ≤ most) (z : List UInt8) : takeR most (bodyR r ++ z) = r := by
  unfold mayR at hr
  by_cases k1 : r.kind = 1
  · rw [if_pos k1] at hr
    obtain ⟨⟨h1, h2, h3, h4⟩, e⟩ := hr
    have m1 : (0 : Int) ≤ r.next ∧ r.next < 9223372036854775808 := by omega
    have m2 : (0 : Int) ≤ r.boots ∧ r.boots < 9223372036854775808 := by omega
    rw [e]
    simp [takeR, bodyR, rd_n, List.append_assoc, i1, m1, m2, mx m1, mx m2]
  rw [if_neg k1] at hr
  by_cases k2 : r.kind = 2
  · rw [if_pos k2] at hr
    obtain ⟨h1, e⟩ := hr
    have m1 := tI h1
    rw [e]
    simp [takeR, bodyR, rd_n, List.append_assoc, i2, m1, mx m1]
  rw [if_neg k2] at hr
  by_cases k3 : r.kind = 3
  · rw [if_pos k3] at hr
    obtain ⟨⟨g1, g2, g3, g4, g5, g6, g7, g8⟩, e⟩ := hr
    have m1 := cI g1; have m2 := nI g2; have m4 := mI g4; have m5 := tI g8
    have hs := sI (stampI_of g5); have hl := sJ (stampI_of g5)
    rw [e]
    simp [takeR, bodyR, rd_n, List.append_assoc, i3, m1, m2, m4, m5, mx m1, mx m2, mx m4, mx m5, rd_t2 _ _ hp hm, rd_c _ _ hl hs]
    have hb : List.map (Int.ofNat ∘ Int.toNat) r.grant.stamp = r.grant.stamp := by simpa using back_c _ hs
    rw [hb]
  rw [if_neg k3] at hr
  by_cases k4 : r.kind = 4
  · rw [if_pos k4] at hr
    obtain ⟨⟨g1, g2, g3, g4, g5, g6, g7, g8⟩, _, e⟩ := hr
    have m1 := cI g1; have m2 := nI g2; have m4 := mI g4; have m5 := tI g8
    have hs := sI (stampI_of g5); have hl := sJ (stampI_of g5)
    rw [e]
    simp [takeR, bodyR, rd_n, List.append_assoc, i4, m1, m2, m4, m5, mx m1, mx m2, mx m4, mx m5, rd_t2 _ _ hp hm, rd_c _ _ hl hs]
    have hb : List.map (Int.ofNat ∘ Int.toNat) r.grant.stamp = r.grant.stamp := by simpa using back_c _ hs
    rw [hb]
  rw [if_neg k4] at hr
  by_cases k5 : r.kind = 5
  · rw [if_pos k5] at hr
    obtain ⟨g1, g5, g6, e⟩ := hr
    have m1 := cI g1
    have hs := sI (stampI_of g5); have hl := sJ (stampI_of g5)
    rw [e]
    simp [takeR, bodyR, rd_n, List.append_assoc, i5, m1, mx m1, rd_c _ _ hl hs]
    simpa using back_c _ hs
  rw [if_neg k5] at hr
  by_cases k6 : r.kind = 6
  · rw [if_pos k6] at hr
    obtain ⟨g1, e⟩ := hr
    have m1 := cI g1
    have i6 : (0 : Int) ≤ 6 ∧ (6 : Int) < 9223372036854775808 := by omega
    rw [e]
    simp [takeR, bodyR, rd_n, List.append_assoc, i6, m1, mx m1]
  rw [if_neg k6] at hr
  by_cases k7 : r.kind = 7
  · rw [if_pos k7] at hr
    have i7 : (0 : Int) ≤ 7 ∧ (7 : Int) < 9223372036854775808 := by omega
    rw [hr]
    simp [takeR, bodyR, rd_n, i7]
  · rw [if_neg k7] at hr
    exact hr.elim
theorem nS_le2 {x : Int} (h : x ≤ 4398046511103) : (nS x).length ≤ 6 := numS_len 5 x.toNat (by omega)
theorem bodyR_len (r : Rcd) (hr : mayR r) : 1 ≤ (bodyR r).length ∧ (bodyR r).length ≤ 188 ∧ r.grant.path.length ≤ (bodyR r).length := by
  have hpos : 1 ≤ (nS r.kind).length := nS_pos _
  unfold mayR at hr
  unfold bodyR
  rw [List.length_append]
  by_cases k1 : r.kind = 1
  · rw [if_pos k1] at hr ⊢
    obtain ⟨⟨h1, h2, h3, h4⟩, e⟩ := hr
    have a := nS_le2 (x := r.kind) (by omega); have b := nS_le2 (x := r.next) (by omega); have c := nS_le2 (x := r.boots) (by omega)
    have hg : r.grant.path.length = 0 := by rw [e]; rfl
    rw [List.length_append]
    omega
  rw [if_neg k1] at hr ⊢
  by_cases k2 : r.kind = 2
  · rw [if_pos k2] at hr ⊢
    obtain ⟨h1, e⟩ := hr
    unfold termI at h1
    have a := nS_le2 (x := r.kind) (by omega); have b := nS_le2 (x := r.longest) (by omega)
    have hg : r.grant.path.length = 0 := by rw [e]; rfl
    omega
  rw [if_neg k2] at hr ⊢
  have key : r.kind = 3 ∨ r.kind = 4 → mayG r.grant → 1 ≤ (nS r.kind).length + (nS r.grant.id ++ (nS r.grant.holder ++ (textS r.grant.path ++ (nS r.grant.mode ++ (nS r.grant.term ++ cS r.grant.stamp))))).length ∧ (nS r.kind).length + (nS r.grant.id ++ (nS r.grant.holder ++ (textS r.grant.path ++ (nS r.grant.mode ++ (nS r.grant.term ++ cS r.grant.stamp))))).length ≤ 188 ∧ r.grant.path.length ≤ (nS r.kind).length + (nS r.grant.id ++ (nS r.grant.holder ++ (textS r.grant.path ++ (nS r.grant.mode ++ (nS r.grant.term ++ cS r.grant.stamp))))).length := by
    rintro hk ⟨g1, g2, g3, g4, g5, g6, g7, g8⟩
    unfold cntI at g1
    unfold nodeI at g2
    unfold modeI at g4
    unfold termI at g8
    have a := nS_le2 (x := r.kind) (by omega); have b := nS_le2 (x := r.grant.id) (by omega); have c := nS_le2 (x := r.grant.holder) (by omega)
    have d := nS_le2 (x := r.grant.mode) (by omega); have e := nS_le2 (x := r.grant.term) (by omega)
    have f := textS_le (path_len g3); have g := cS_le (stampI_of g5)
    have ht : (textS r.grant.path).length = (numS r.grant.path.length).length + r.grant.path.length := by unfold textS; rw [List.length_append]
    simp only [List.length_append]
    omega
  by_cases k3 : r.kind = 3
  · rw [if_pos k3] at hr
    rw [if_pos (Or.inl k3)]
    exact key (.inl k3) hr.1
  rw [if_neg k3] at hr
  by_cases k4 : r.kind = 4
  · rw [if_pos k4] at hr
    rw [if_pos (Or.inr k4)]
    exact key (.inr k4) hr.1
  rw [if_neg k4] at hr
  rw [if_neg (fun h => h.elim k3 k4)]
  by_cases k5 : r.kind = 5
  · rw [if_pos k5] at hr ⊢
    obtain ⟨g1, g5, g6, e⟩ := hr
    unfold cntI at g1
    have a := nS_le2 (x := r.kind) (by omega); have b := nS_le2 (x := r.id) (by omega); have g := cS_le (stampI_of g5)
    have hg : r.grant.path.length = 0 := by rw [e]; rfl
    rw [List.length_append]
    omega
  rw [if_neg k5] at hr ⊢
  by_cases k6 : r.kind = 6
  · rw [if_pos k6] at hr ⊢
    obtain ⟨g1, e⟩ := hr
    unfold cntI at g1
    have a := nS_le2 (x := r.kind) (by omega); have b := nS_le2 (x := r.id) (by omega)
    have hg : r.grant.path.length = 0 := by rw [e]; rfl
    omega
  rw [if_neg k6] at hr ⊢
  by_cases k7 : r.kind = 7
  · rw [if_pos k7] at hr
    have a := nS_le2 (x := r.kind) (by omega)
    have hg : r.grant.path.length = 0 := by rw [hr]; rfl
    rw [List.length_nil]
    omega
  · rw [if_neg k7] at hr
    exact hr.elim
/-- decoding what has been encoded gives it back -/
theorem decR_encR {r : Rcd} {x : List UInt8} (h : encR r = some x) : decR x = some r ∧ 1 ≤ x.length ∧ x.length ≤ 188 := by
  unfold encR at h
  split at h
  · rename_i hm
    injection h with h
    obtain ⟨l1, l2, l3⟩ := bodyR_len r hm
    have e := take_bodyR r hm (bodyR r).length (by omega) l3 []
    rw [List.append_nil] at e
    rw [← h]
    refine ⟨?_, l1, l2⟩
    unfold decR
    rw [e]
    unfold encR
    rw [if_pos hm, if_pos rfl]
  · cases h
/-- what is decoded is the only bytes of its record -/
theorem encR_decR {b : List UInt8} {r : Rcd} (h : decR b = some r) : encR r = some b := by
  unfold decR at h
  split at h
  · rename_i he
    injection h with h
    rw [← h]; exact he
  · cases h
end Go.Proofs.Ytifdceofglocdaa

/- Grants, books and records in memory; a book's small tests by contract. No condition beyond what each theorem states. -/
namespace Go.Proofs.Ytifdceofglocdaa
open Go Go.RowKit Go.PlainAid

/-- a grant with the value of its stamp -/
abbrev GP := Grt × Value
def pC (p : GP) : List Value := [.int .i64 p.1.id, .int .i64 p.1.holder, .string ⟨p.1.path.toArray⟩, .int .i64 p.1.mode, p.2, .int .i64 p.1.term]
def pL (l : List GP) : List Value := (l.map pC).flatten
theorem pL_len : ∀ l : List GP, (pL l).length = 6 * l.length
  | [] => rfl
  | x :: l => by
    have h := pL_len l
    unfold pL at h ⊢
    rw [List.map_cons, List.flatten_cons, List.length_append, h, List.length_cons]
    show 6 + _ = _; omega
theorem pL_snoc (l : List GP) (x : GP) : pL (l ++ [x]) = pL l ++ pC x := by simp [pL]
theorem pL_append (l m : List GP) : pL (l ++ m) = pL l ++ pL m := by simp [pL]
theorem pL_get (l : List GP) (k : Nat) (hk : k < l.length) (j : Nat) (hj : j < 6) : (pL l)[k * 6 + j]? = (pC l[k])[j]? := by
  have e : l = l.take k ++ (l[k] :: l.drop (k + 1)) := by rw [← List.drop_eq_getElem_cons hk, List.take_append_drop]
  have h1 : pL l = pL (l.take k) ++ (pC l[k] ++ pL (l.drop (k + 1))) := by
    conv => lhs; rw [e]
    unfold pL
    rw [List.map_append, List.flatten_append, List.map_cons, List.flatten_cons]
  have h2 : (pL (l.take k)).length = k * 6 := by rw [pL_len, List.length_take]; omega
  rw [h1, List.getElem?_append_right (by omega), h2, Nat.add_sub_cancel_left, List.getElem?_append_left (by show j < 6; exact hj)]
theorem pC_one (x : GP) (A : Option Addr) (n c : Nat) (e : x.2 = .slice A n c) : ∀ v ∈ pC x, v.oneCell' = true := by
  intro v hv
  unfold pC at hv
  rw [e] at hv
  simp only [List.mem_cons, List.not_mem_nil, or_false] at hv
  rcases hv with rfl | rfl | rfl | rfl | rfl | rfl <;> rfl
/-- the grants alone -/
def gsL (l : List GP) : List Grt := l.map (·.1)
theorem gsL_len (l : List GP) : (gsL l).length = l.length := by simp [gsL]
/-- a list of grants in memory -/
def ArgG (w : World) (v : Value) (l : List GP) : Prop := ∃ A c, v = .slice A l.length c ∧ l.length ≤ c ∧ (l ≠ [] → ∃ g o, A = some ⟨g, o, none⟩ ∧ g < w.heap.size ∧ ∀ k (h : k < l.length), w.rangeAt g (o + k * 6) (pC l[k])) ∧ ∀ p ∈ l, ArgInts w p.2 p.1.stamp
theorem ArgG.no {w w' : World} {v : Value} {l : List GP} (h : ArgG w v l) (hk : Kp No w w') : ArgG w' v l := by
  obtain ⟨A, c, e, hc, h, hp⟩ := h
  refine ⟨A, c, e, hc, fun hne => ?_, fun p hp' => (hp p hp').no hk⟩
  obtain ⟨g, o, e1, h1, h2⟩ := h hne
  exact ⟨g, o, e1, Nat.lt_of_lt_of_le h1 hk.size, fun k hk' => range_kp (h2 k hk') hk (fun m => m)⟩
theorem ArgG.nil (w : World) (A : Option Addr) (c : Nat) : ArgG w (.slice A 0 c) [] := ⟨A, c, rfl, Nat.zero_le _, fun h => absurd rfl h, fun p hp => by cases hp⟩
/-- the cells of a grant of a list -/
theorem ArgG.at_ {w : World} {v : Value} {l : List GP} (h : ArgG w v l) {k : Nat} (hk : k < l.length) : ∃ g o c, v = .slice (some ⟨g, o, none⟩) l.length c ∧ w.rangeAt g (o + k * 6) (pC l[k]) ∧ ArgInts w l[k].2 l[k].1.stamp := by
  obtain ⟨A, c, e, _, h, hp⟩ := h
  obtain ⟨g, o, e1, _, h2⟩ := h (fun e => by subst e; exact Nat.not_lt_zero _ hk)
  subst e1
  exact ⟨g, o, c, e, h2 k hk, hp _ (List.getElem_mem hk)⟩
/-- texts and stamps are no longer than n -/
def ShG (n : Nat) (g : Grt) : Prop := g.path.length ≤ n ∧ g.stamp.length ≤ n

theorem bcounter_any (n : Int) (w : World) : Calls Try.prog 69 #[.int .i64 n] w fun e w' => e = .returned (.bool (decide (cntI n))) ∧ w = w' := by
  have HS := Lib.hid (show decide (cntI n) = decide (1 ≤ n ∧ n ≤ 1099511627776) from rfl)
  go_enter Try.func69, Try.ntmps69
  by_cases h1 : 1 ≤ n <;> by_cases h2 : n ≤ 1099511627776
  all_goals
    go_wp2
    go_ret
    exact ⟨ret_bool rfl (by rw [HS.out]; simp [h1, h2]), rfl⟩
set_option maxHeartbeats 1000000 in
theorem heads_any (n b : Int) (w : World) : Calls Try.prog 44 #[.int .i64 n, .int .i64 b] w fun e w' => e = .returned (.bool (decide (headsB n b))) ∧ w = w' := by
  have HS := Lib.hid (show decide (headsB n b) = decide (1 ≤ n ∧ n ≤ 1099511627777 ∧ 0 ≤ b ∧ b ≤ 1099511627776) from rfl)
  go_enter Try.func44, Try.ntmps44
  by_cases h1 : 1 ≤ n <;> by_cases h2 : n ≤ 1099511627777 <;> by_cases h3 : 0 ≤ b <;> by_cases h4 : b ≤ 1099511627776
  all_goals
    go_wp2
    go_ret
    exact ⟨ret_bool rfl (by rw [HS.out]; simp [h1, h2, h3, h4]), rfl⟩
theorem newestS_last {L : List Int} {k : Nat} {x : Int} (hk : L.length = k + 1) (h : L[k]? = some x) : newestS L = x := by
  unfold newestS
  rw [List.getLastD_eq_getLast?, List.getLast?_eq_getElem?, hk, Nat.add_sub_cancel, h]
  rfl
theorem newest_any (v : Value) (L : List Int) (w : World) (hv : ArgInts w v L) (hl : L.length ≤ maxLen) : Calls Try.prog 47 #[v] w fun e w' => e = .returned (.int .i64 (newestS L)) ∧ w = w' := by
  unfold maxLen at hl
  have HV := Lib.hid hv
  obtain ⟨A, c, rfl, _, _⟩ := hv
  by_cases h0 : L.length = 0
  · have HX := Lib.hid (show newestS L = 0 by rw [List.eq_nil_of_length_eq_zero h0]; rfl)
    rw [h0]
    clear h0
    go_enter Try.func47, Try.ntmps47
    go_wp2
    go_ret
    exact ⟨ret_int rfl HX.out.symm, rfl⟩
  · obtain ⟨k, hk⟩ : ∃ k, L.length = k + 1 := ⟨L.length - 1, by omega⟩
    have hlt : k < L.length := by omega
    have hl' : k + 1 ≤ 9223372036854775807 := by omega
    obtain ⟨g, o, c', e1, hxx⟩ := HV.out.at_ hlt
    have hx := hxx k _ (List.getElem?_eq_getElem hlt)
    clear hxx
    injection e1 with e1 _ e1c
    subst e1 e1c
    have HX := Lib.hid (newestS_last hk (List.getElem?_eq_getElem hlt))
    generalize L[k] = x at *
    rw [hk]
    have e0 : ((k + 1 : Nat) : Int) - 1 = (k : Int) := by omega
    have hk0 : (0 : Int) ≤ (k : Int) := by omega
    have hk1 : (k : Int) < ((k + 1 : Nat) : Int) := by omega
    clear h0 hk hlt hl
    go_enter Try.func47, Try.ntmps47
    go_wp2
    go_ret
    exact ⟨ret_int rfl HX.out.symm, rfl⟩
theorem stamped_any (v : Value) (L : List Int) (w : World) (hv : ArgInts w v L) (hl : L.length ≤ maxLen) : Calls Try.prog 70 #[v] w fun e w' => e = .returned (.bool (decide (validS L = true ∧ L ≠ []))) ∧ w = w' := by
  have hvv := validS_any v L w hv hl
  obtain ⟨A, c, rfl, _, _⟩ := hv
  by_cases h0 : L.length = 0
  · have HX := Lib.hid (show decide (validS L = true ∧ L ≠ []) = false by rw [List.eq_nil_of_length_eq_zero h0]; rfl)
    rw [h0]
    clear h0 hvv
    go_enter Try.func70, Try.ntmps70
    go_wp2
    go_ret
    exact ⟨ret_bool rfl HX.out.symm, rfl⟩
  · have hk1 : (0 : Int) < (L.length : Int) := by omega
    obtain ⟨R, hR⟩ : ∃ R, R = decide (validS L = true ∧ L ≠ []) := ⟨_, rfl⟩
    rw [← hR]
    have HX := Lib.hid (show R = validS L by
      have h : L ≠ [] := fun e => h0 (by rw [e]; rfl)
      rw [hR]
      cases validS L <;> simp [h])
    clear h0 hR
    go_enter Try.func70, Try.ntmps70
    generalize validS L = b at *
    cases b
    all_goals
      go_wp2_with (refine hvv.mono ?_; rintro e w' ⟨rfl, rfl⟩)
      go_ret
      exact ⟨ret_bool rfl (by rw [HX.out]), rfl⟩
end Go.Proofs.Ytifdceofglocdaa
