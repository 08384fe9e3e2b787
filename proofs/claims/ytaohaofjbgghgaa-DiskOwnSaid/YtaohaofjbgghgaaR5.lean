/- A region that draws its order: as rg_all, with a fact that knows what has been done. No condition beyond what each theorem states. -/
import Derived.Test.YtaohaofjbgghgaaR4
namespace Go.Proofs.Ytaohaofjbgghgaa
open Go.RowKit
section
variable {P : Program} {ops : Array Oper} {Q : Exit → Act → World → Prop}
theorem rg_all2 {id : Nat} {a : Act} {w : World} (idx : List Nat) (hidx : idx = List.range ops.size) (fr : (Nat → Value) → Act) (hfr : ∀ x, puts ops x idx a = fr x) (Pj : Nat → (Nat → Value) → World → Prop) (F : (Nat → Bool) → World → Prop) (R : Nat → World → World → Prop) (hm : P.follows .mixedOrders = true) (hok : okRg ops = true) (hF : F (fun _ => false) w.drew)
    (mono : ∀ i j x v w w', i ≠ j → comesAfter ops j i = false → R i w w' → Pj j x w → Pj j (upd x i v) w')
    (step : ∀ i oi, ops[i]? = some oi → ∀ l x w K, F l w → l i = false → (∀ j, comesAfter ops j i = true → l j = false) → (∀ j, comesAfter ops i j = true → Pj j x w) → (∀ a' v w', a' = fr (upd x i v) → Pj i (upd x i v) w' → F (fun j => if j = i then true else l j) w' → R i w w' → K a' w') → wpOp P ops Q i K (fr x) w)
    (hend : ∀ l x w, F l w → (∀ j, j < ops.size → l j = true) → (∀ j, j < ops.size → Pj j x w) → Q .normal (fr x) w) : (Code.region id ops true).wp P Q a w := by
  refine wp_region_any hm ?_
  subst hidx
  obtain rfl : (fun x => puts ops x (List.range ops.size) a) = fr := funext hfr
  have hok1 : ∀ i oi, ops[i]? = some oi → ∀ e ∈ oi.after, Region.binds .any e = true → e.on < i := fun i oi hi e he hb => by
    have h1 := List.all_eq_true.1 hok i (List.mem_range.2 (Array.getElem?_eq_some_iff.1 hi).1)
    rw [Bool.and_eq_true, hi] at h1
    obtain ⟨n, hn, hx⟩ := Array.mem_iff_getElem.1 he
    have h2 := Array.all_eq_true.1 h1.1 n hn
    rw [hx, hb] at h2
    simpa using h2
  have key : ∀ (fuel : Nat) (listed : Array Bool) (a' : Act) (w : World), listed.size = ops.size → ((List.range ops.size).filter fun j => !listed.getD j true).length = fuel →
      (∀ j i, listed.getD j false = true → comesAfter ops j i = true → listed.getD i false = true) →
      (∃ x, a' = puts ops x (List.range ops.size) a ∧ F (fun j => listed.getD j false) w ∧ ∀ j, j < ops.size → listed.getD j false = true → Pj j x w) → wpAny P .any ops Q fuel listed a' w := by
    intro fuel
    induction fuel with
    | zero =>
      rintro listed a' w hs hl _ ⟨x, rfl, hf, hp⟩
      have hall : ∀ j, j < ops.size → listed.getD j true = true := fun j hj => by
        have h0 := List.eq_nil_of_length_eq_zero hl
        cases h : listed.getD j true with
        | true => rfl
        | false =>
          have : j ∈ (List.range ops.size).filter fun j => !listed.getD j true := List.mem_filter.2 ⟨List.mem_range.2 hj, by rw [h]; rfl⟩
          rw [h0] at this; cases this
      refine ⟨?_, hend _ x w hf (fun j hj => by have := hall j hj; simpa [Array.getD, hs, hj] using this) fun j hj => hp j hj ?_⟩
      · unfold Region.ready
        rw [List.filter_eq_nil_iff]
        intro j hj
        rw [hall j (List.mem_range.1 hj)]
        simp
      · have := hall j hj
        simpa [Array.getD, hs, hj] using this
    | succ fuel ih =>
      rintro listed a' w hs hl hc ⟨x, rfl, hf, hp⟩
      refine ⟨fun h0 => ?_, fun i hi => ?_⟩
      · exfalso
        have hall : ∀ j, j < ops.size → listed.getD j false = true := by
          intro j
          induction j using Nat.strongRecOn with
          | ind j ihj =>
            intro hj
            cases h : listed.getD j true with
            | true => simpa [Array.getD, hs, hj] using h
            | false =>
              have : j ∈ Region.ready .any ops listed := by
                unfold Region.ready
                rw [List.mem_filter]
                refine ⟨List.mem_range.2 hj, ?_⟩
                rw [h, Array.getElem?_eq_getElem hj]
                simp only [Bool.not_false, Option.map_some, Option.getD_some, Bool.true_and]
                rw [Array.all_eq_true]
                intro n hn
                cases hb : Region.binds .any ops[j].after[n] with
                | false => rfl
                | true =>
                  have hlt := hok1 j ops[j] (Array.getElem?_eq_getElem hj) _ (Array.getElem_mem hn) hb
                  rw [ihj _ hlt (by omega)]; rfl
              rw [h0] at this; cases this
        have : ((List.range ops.size).filter fun j => !listed.getD j true) = [] := by
          rw [List.filter_eq_nil_iff]
          intro j hj
          have := hall j (List.mem_range.1 hj)
          have h2 : listed.getD j true = true := by simpa [Array.getD, hs, List.mem_range.1 hj] using this
          rw [h2]; simp
        rw [this] at hl; cases hl
      · obtain ⟨hun, oi, hoi, haf⟩ := mem_ready.1 hi
        have hil := (Array.getElem?_eq_some_iff.1 hoi).1
        have hca : ∀ j, comesAfter ops i j = true → listed.getD j false = true := fun j hj => by
          unfold comesAfter at hj
          rw [hoi] at hj
          obtain ⟨n, hn, he⟩ := Array.any_eq_true.1 hj
          simp only [Bool.and_eq_true, beq_iff_eq] at he
          have := haf _ (Array.getElem_mem hn) he.1
          rwa [he.2] at this
        have hlt : ∀ j, comesAfter ops i j = true → j < ops.size := fun j hj => by
          unfold comesAfter at hj
          rw [hoi] at hj
          obtain ⟨n, hn, he⟩ := Array.any_eq_true.1 hj
          simp only [Bool.and_eq_true, beq_iff_eq] at he
          have := hok1 i oi hoi _ (Array.getElem_mem hn) he.1
          omega
        have hun2 : listed.getD i false = false := by simpa [Array.getD, hs, hil] using hun
        refine step i oi hoi _ x w _ hf hun2 (fun j hj => ?_) (fun j hj => hp j (hlt j hj) (hca j hj)) fun a2 v w2 ha hpi hf2 hr => ?_
        · cases h : listed.getD j false with
          | false => rfl
          | true =>
            have := hc j i h hj
            rw [hun2] at this; cases this
        have hset : ∀ j, j ≠ i → (listed.setIfInBounds i true).getD j false = listed.getD j false := fun j hj => by
          simp only [Array.getD_eq_getD_getElem?]
          rw [Array.getElem?_setIfInBounds_ne (fun e => hj e.symm)]
        have hsi : (listed.setIfInBounds i true).getD i false = true := by simp [Array.getD, hs, hil]
        have hfl : (fun j => (listed.setIfInBounds i true).getD j false) = fun j => if j = i then true else listed.getD j false := by
          funext j
          by_cases e : j = i
          · subst e; rw [if_pos rfl]; exact hsi
          · rw [if_neg e]; exact hset j e
        refine ih _ a2 w2 (by simpa using hs) ?_ (fun j k hj hk => ?_) ⟨upd x i v, ha, by rw [hfl]; exact hf2, fun j hj hl2 => ?_⟩
        · have := left_set hs hil hun; omega
        · by_cases e : j = i
          · subst e
            by_cases e2 : k = j
            · subst e2; exact hsi
            · rw [hset k e2]; exact hca k hk
          · rw [hset j e] at hj
            have := hc j k hj hk
            by_cases e2 : k = i
            · subst e2; exact hsi
            · rw [hset k e2]; exact this
        · by_cases e : j = i
          · subst e; exact hpi
          · rw [hset j e] at hl2
            refine mono i j x v w w2 (fun h => e h.symm) ?_ hr (hp j hj hl2)
            cases h : comesAfter ops j i with
            | false => rfl
            | true =>
              have := hc j i hl2 h
              have h3 : listed.getD i false = false := by simpa [Array.getD, hs, hil] using hun
              rw [h3] at this; cases this
  refine key ops.size _ a _ (by simp) ?_ (fun j i hj => ?_) ⟨_, (puts_id a _).symm, ?_, fun j hj hl => ?_⟩
  · rw [List.filter_eq_self.2 fun j hj => ?_, List.length_range]
    have := List.mem_range.1 hj
    simp [Array.getD, this]
  · exfalso
    by_cases h : j < ops.size <;> simp [Array.getD, h] at hj
  · have e : (fun j => (Array.replicate ops.size false).getD j false) = fun _ => false := by
      funext j
      by_cases h : j < ops.size <;> simp [Array.getD, h]
    rw [e]; exact hF
  · exfalso
    simp [Array.getD, hj] at hl
end
end Go.Proofs.Ytaohaofjbgghgaa
