/- Several texts of this claim in one. No condition beyond what each theorem states. -/
import Derived.Test.YtifdceofglocdaaB35
/- Words for BookOwn: rows whose stamps are wiped and grown, what stays beside them. No condition beyond what each theorem states. -/
namespace Go.Proofs.Ytifdceofglocdaa
open Go Go.RowKit Go.PlainAid

/-- a row of elements of which number k of each is a row of ints of a zone, from element i on -/
def StZ (w : World) (T : TypeId) (size k : Nat) (Z : Nat → Prop) (N i n : Nat) (v : Value) : Prop :=
  ∃ xs, w.ownsRow 0 T size v n xs ∧ (∀ g, v.ownBlock = some g → Z g) ∧ ∀ j, i ≤ j → j < n → ∃ u m, xs[j * size + k]? = some u ∧ m ≤ N ∧ IntZ w Z m u
theorem StZ.iz {w w' : World} {T : TypeId} {size k : Nat} {Z Z' : Nat → Prop} {N i n : Nat} {v : Value} (h : StZ w T size k Z N i n v) (hk : IZ Z' w w') (hT : T ≠ 3) : StZ w' T size k Z N i n v := by
  obtain ⟨xs, h1, h2, h3⟩ := h
  refine ⟨xs, own_kp h1 hk.kp fun g e ⟨_, cs, hb⟩ => own_ne h1 hb hT e, h2, fun j a b => ?_⟩
  obtain ⟨u, m, e, hm, hu⟩ := h3 j a b
  exact ⟨u, m, e, hm, hu.iz hk⟩
theorem StZ.kp {w w' : World} {T : TypeId} {size k : Nat} {Z M : Nat → Prop} {N i n : Nat} {v : Value} (h : StZ w T size k Z N i n v) (hk : Kp M w w') (hT : ∀ g cs, M g → Bk w g T cs → False) (hI : ∀ g cs, M g → Bk w g 3 cs → False) : StZ w' T size k Z N i n v := by
  obtain ⟨xs, h1, h2, h3⟩ := h
  refine ⟨xs, own_kp h1 hk fun g e m => ?_, h2, fun j a b => ?_⟩
  · obtain ⟨cs, hb⟩ := own_bk h1 g e
    exact hT g cs m hb
  · obtain ⟨u, m, e, hm, hu⟩ := h3 j a b
    exact ⟨u, m, e, hm, hu.kp hk hI⟩
theorem StZ.no {w w' : World} {T : TypeId} {size k : Nat} {Z : Nat → Prop} {N i n : Nat} {v : Value} (h : StZ w T size k Z N i n v) (hk : Kp No w w') : StZ w' T size k Z N i n v := h.kp hk (fun _ _ m _ => m) fun _ _ m _ => m
theorem StZ.one {w w' : World} {T T' : TypeId} {size k g : Nat} {Z : Nat → Prop} {N i n : Nat} {v : Value} {cs : List Value} (h : StZ w T size k Z N i n v) (hk : Kp (One g) w w') (hb : Bk w g T' cs) (h1 : T ≠ T') (h2 : 3 ≠ T') : StZ w' T size k Z N i n v :=
  h.kp hk (fun g' cs' m hb' => by obtain rfl : g' = g := m; exact hb'.ne_ hb h1 rfl) fun g' cs' m hb' => by obtain rfl : g' = g := m; exact hb'.ne_ hb h2 rfl
theorem StZ.next {w : World} {T : TypeId} {size k : Nat} {Z : Nat → Prop} {N i n : Nat} {v : Value} (h : StZ w T size k Z N i n v) : StZ w T size k Z N (i + 1) n v := by
  obtain ⟨xs, h1, h2, h3⟩ := h
  exact ⟨xs, h1, h2, fun j a b => h3 j (by omega) b⟩
/-- an element of such a row -/
theorem StZ.at_ {w : World} {T : TypeId} {size k : Nat} {Z : Nat → Prop} {N i n : Nat} {v : Value} (h : StZ w T size k Z N i n v) (hi : i < n) (_hk : k < size) : ∃ g cap cs u m, v = .slice (some ⟨g, 0, none⟩) n cap ∧ Bk w g T cs ∧ Z g ∧ (∀ q, q < size → ∃ c, w.cell? ⟨g, i * size + q, none⟩ = some c) ∧ w.cell? ⟨g, i * size + k, none⟩ = some u ∧ m ≤ N ∧ IntZ w Z m u := by
  obtain ⟨xs, h1, h2, h3⟩ := h
  obtain ⟨u, m, e, hm, hu⟩ := h3 i (Nat.le_refl _) hi
  obtain ⟨g, cap, rfl, _, _, _⟩ := own_form h1 (by omega)
  obtain ⟨cs, hb⟩ := own_bk h1 g rfl
  have hc : ∀ p u, xs[p]? = some u → w.cell? ⟨g, p, none⟩ = some u := fun p u hp => by
    have := h1.cells (g := g) rfl p u hp
    rwa [Addr.add_mid, Nat.zero_add] at this
  refine ⟨g, cap, cs, u, m, rfl, hb, h2 g rfl, fun q hq => ?_, hc _ _ e, hm, hu⟩
  have hlt : i * size + q < xs.length := by
    rw [h1.1]
    have : (i + 1) * size ≤ n * size := Nat.mul_le_mul_right _ hi
    rw [Nat.add_mul, Nat.one_mul] at this
    omega
  exact ⟨_, hc _ _ (List.getElem?_eq_getElem hlt)⟩
/-- a cell of an element is written -/
theorem StZ.set_ {w : World} {T : TypeId} {size k : Nat} {Z : Nat → Prop} {N i n g cap : Nat} (h : StZ w T size k Z N i n (.slice (some ⟨g, 0, none⟩) n cap)) (p : Nat) (u : Value) (i' : Nat) (hT : T ≠ 3) (hp : p < n * size) (hi : i ≤ i') (hne : ∀ j, i' ≤ j → j * size + k ≠ p) : StZ (w.setCell ⟨g, p, none⟩ u) T size k Z N i' n (.slice (some ⟨g, 0, none⟩) n cap) := by
  obtain ⟨xs, h1, h2, h3⟩ := h
  obtain ⟨cs, hb⟩ := own_bk h1 g rfl
  refine ⟨xs.set p u, own_set h1 hp, h2, fun j a b => ?_⟩
  obtain ⟨u2, m, e, hm, hu⟩ := h3 j (by omega) b
  refine ⟨u2, m, ?_, hm, hu.kp ((Kp.refl (One g) w).set (.inl (One.self g)) p u) fun g' cs' m hb' => ?_⟩
  · rw [List.getElem?_set_ne (fun e => hne j a e.symm)]; exact e
  · obtain rfl : g' = g := m
    exact hb.ne_ hb' hT rfl
theorem StZ.of_own {w : World} {B N : Nat} {Z : Nat → Prop} {v : Value} {l : List GP} (h : OwnG w B v l) (hz : ∀ g, v.ownBlock = some g → Z g) (hp : ∀ p ∈ l, p.1.stamp.length ≤ N ∧ ∀ g, p.2.ownBlock = some g → Z g) : StZ w 30 6 4 Z N 0 l.length v := by
  refine ⟨pL l, own_mono h.1 (Nat.zero_le _), hz, fun j _ hj => ?_⟩
  have hm := List.getElem_mem hj
  exact ⟨l[j].2, l[j].1.stamp.length, by rw [pL_get l j hj 4 (by decide)]; rfl, (hp _ hm).1, IntZ.of (h.2 _ hm) (hp _ hm).2⟩
theorem StZ.of_rs {w : World} {B N : Nat} {Z : Nat → Prop} {v : Value} {l : List RP} (h : OwnRs w B v l) (hz : ∀ g, v.ownBlock = some g → Z g) (hp : ∀ p ∈ l, p.1.grant.stamp.length ≤ N ∧ ∀ g, p.2.1.ownBlock = some g → Z g) : StZ w 32 12 5 Z N 0 l.length v := by
  refine ⟨rL l, own_mono h.1 (Nat.zero_le _), hz, fun j _ hj => ?_⟩
  have hm := List.getElem_mem hj
  exact ⟨l[j].2.1, l[j].1.grant.stamp.length, by rw [rL_get l j hj 5 (by decide)]; rfl, (hp _ hm).1, IntZ.of (h.2 _ hm).1 (hp _ hm).2⟩
/-- where the blocks of a list of grants, of records lie -/
def SafeG (S : Nat → Prop) (v : Value) (l : List GP) : Prop := (∀ g, v.ownBlock = some g → S g) ∧ ∀ p ∈ l, ∀ g, p.2.ownBlock = some g → S g
def SafeR (S : Nat → Prop) (v : Value) (l : List RP) : Prop := (∀ g, v.ownBlock = some g → S g) ∧ ∀ p ∈ l, (∀ g, p.2.1.ownBlock = some g → S g) ∧ ∀ g, p.2.2.ownBlock = some g → S g
theorem SafeG.mono {S S' : Nat → Prop} {v : Value} {l : List GP} (h : SafeG S v l) (hs : ∀ k, S k → S' k) : SafeG S' v l := ⟨fun g e => hs g (h.1 g e), fun p hp g e => hs g (h.2 p hp g e)⟩
theorem SafeR.mono {S S' : Nat → Prop} {v : Value} {l : List RP} (h : SafeR S v l) (hs : ∀ k, S k → S' k) : SafeR S' v l := ⟨fun g e => hs g (h.1 g e), fun p hp => ⟨fun g e => hs g ((h.2 p hp).1 g e), fun g e => hs g ((h.2 p hp).2 g e)⟩⟩
theorem OwnG.safe {w : World} {B : Nat} {v : Value} {l : List GP} (h : OwnG w B v l) : SafeG (fun k => B ≤ k ∧ k < w.heap.size) v l := ⟨fun g e => h.1.lt g e, fun p hp g e => (h.2 p hp).lt g e⟩
theorem OwnRs.safe {w : World} {B : Nat} {v : Value} {l : List RP} (h : OwnRs w B v l) : SafeR (fun k => B ≤ k ∧ k < w.heap.size) v l := ⟨fun g e => h.1.lt g e, fun p hp => ⟨fun g e => (h.2 p hp).1.lt g e, fun g e => (h.2 p hp).2.lt g e⟩⟩
theorem OwnG.keep {w w' : World} {B : Nat} {v : Value} {l : List GP} {S M : Nat → Prop} (h : OwnG w B v l) (hs : SafeG S v l) (hk : Kp M w w') (hm : ∀ k, M k → ¬ S k) : OwnG w' B v l :=
  ⟨own_kp h.1 hk fun g e m => hm g m (hs.1 g e), fun p hp => own_kp (h.2 p hp) hk fun g e m => hm g m (hs.2 p hp g e)⟩
theorem OwnRs.keep {w w' : World} {B : Nat} {v : Value} {l : List RP} {S M : Nat → Prop} (h : OwnRs w B v l) (hs : SafeR S v l) (hk : Kp M w w') (hm : ∀ k, M k → ¬ S k) : OwnRs w' B v l :=
  ⟨own_kp h.1 hk fun g e m => hm g m (hs.1 g e), fun p hp => ⟨own_kp (h.2 p hp).1 hk fun g e m => hm g m ((hs.2 p hp).1 g e), own_kp (h.2 p hp).2 hk fun g e m => hm g m ((hs.2 p hp).2 g e)⟩⟩
/-- what is asked at the end: a book and a dump, each beside the document's -/
structure Rest (W : World) (S : Nat → Prop) (q10 q14 : Nat) (b : Bok) (D : List Rcd) (Ay : Option Addr) (ly : List GP) (cy : Nat) (Aw : Option Addr) (lw : List GP) (cw : Nat) (kv : Value) (kl : List RP) (dv : Value) (dl : List RP) (w : World) : Prop where
  yb : Bk w q10 25 [.int .i64 b.next, .int .i64 b.boots, .int .i64 b.longest, .slice Ay ly.length cy]
  yo : OwnG w W.heap.size (.slice Ay ly.length cy) ly
  yz : SafeG S (.slice Ay ly.length cy) ly
  yg : gsL ly = b.grants
  wb : Bk w q14 25 [.int .i64 b.next, .int .i64 b.boots, .int .i64 b.longest, .slice Aw lw.length cw]
  wo : OwnG w W.heap.size (.slice Aw lw.length cw) lw
  wz : SafeG S (.slice Aw lw.length cw) lw
  wg : gsL lw = b.grants
  ko : OwnRs w W.heap.size kv kl
  kz : SafeR S kv kl
  ke : kl.map (·.1) = D
  uo : OwnRs w W.heap.size dv dl
  uz : SafeR S dv dl
  ue : dl.map (·.1) = D
  s10 : S q10
  s14 : S q14
  kp : Kp No W w
theorem Rest.keep {W w w' : World} {S M : Nat → Prop} {q10 q14 : Nat} {b : Bok} {D : List Rcd} {Ay : Option Addr} {ly : List GP} {cy : Nat} {Aw : Option Addr} {lw : List GP} {cw : Nat} {kv : Value} {kl : List RP} {dv : Value} {dl : List RP}
    (h : Rest W S q10 q14 b D Ay ly cy Aw lw cw kv kl dv dl w) (hk : Kp M w w') (hm : ∀ k, M k → ¬ S k ∧ W.heap.size ≤ k) : Rest W S q10 q14 b D Ay ly cy Aw lw cw kv kl dv dl w' :=
  ⟨h.yb.kp hk (fun m => (hm _ m).1 h.s10), h.yo.keep h.yz hk fun k m => (hm k m).1, h.yz, h.yg, h.wb.kp hk (fun m => (hm _ m).1 h.s14), h.wo.keep h.wz hk fun k m => (hm k m).1, h.wz, h.wg,
    h.ko.keep h.kz hk fun k m => (hm k m).1, h.kz, h.ke, h.uo.keep h.uz hk fun k m => (hm k m).1, h.uz, h.ue, h.s10, h.s14, h.kp.then_ hk fun i hi m => by have := (hm i m).2; omega⟩
theorem Rest.no {W w w' : World} {S : Nat → Prop} {q10 q14 : Nat} {b : Bok} {D : List Rcd} {Ay : Option Addr} {ly : List GP} {cy : Nat} {Aw : Option Addr} {lw : List GP} {cw : Nat} {kv : Value} {kl : List RP} {dv : Value} {dl : List RP}
    (h : Rest W S q10 q14 b D Ay ly cy Aw lw cw kv kl dv dl w) (hk : Kp No w w') : Rest W S q10 q14 b D Ay ly cy Aw lw cw kv kl dv dl w' := h.keep hk fun _ m => m.elim
set_option maxRecDepth 100000 in
theorem slice_toG (g n h c : Nat) (h1 : h ≤ c) (h2 : 0 < c) (W : World) : (Instr.slice 23 (.slice (some ⟨g, 0, none⟩) n c) none (some (.int .i64 (h : Int))) none).run Try.prog W = .ok (.slice (some ⟨g, 0, none⟩) h c) W := by
  rw [run_slice_h (P := Try.prog) W 23 (some ⟨g, 0, none⟩) n c Try.underlying23 .i64 (h : Int) (by omega) (by omega)]
  have hs : (sizeOf (Try.prog.elem 23)).run Try.prog W = .ok 6 W := by kernel_rfl
  rw [hs]
  simp [Result.andThen, sliced, show ¬ c = 0 by omega, Addr.add]
/-- the elder grants of a row -/
theorem argG_prefix {w : World} {B g cap : Nat} {l : List GP} {z : List Value} (h : w.ownsRow B 30 6 (.slice (some ⟨g, 0, none⟩) (l.length + 1) cap) (l.length + 1) (pL l ++ z)) (hp : ∀ p ∈ l, w.ownsRow B 3 1 p.2 p.1.stamp.length (ints p.1.stamp)) : ArgG w (.slice (some ⟨g, 0, none⟩) l.length cap) l := by
  obtain ⟨A, c, e, hc⟩ := own_len h
  injection e with _ _ e
  subst e
  have hg : g < w.heap.size := (h.lt g rfl).2
  refine ⟨_, cap, rfl, by omega, fun _ => ⟨g, 0, rfl, hg, fun k hk i v hv => ?_⟩, fun p q => own_argI (hp p q)⟩
  have hi : i < 6 := (List.getElem?_eq_some_iff.1 hv).1
  have h2 := h.cells (g := g) rfl (k * 6 + i) v (by
    rw [List.getElem?_append_left (by rw [pL_len]; omega), pL_get l k hk i hi]; exact hv)
  rw [Addr.add_mid] at h2
  rw [← h2, Nat.zero_add, Nat.zero_add]
/-- a record of one's own in a block that was made since -/
def RecAt (w : World) (B : Nat) (r : Rcd) (v : Value) : Prop := ∃ g A c A2 c2, v = .pointer (some ⟨g, 0, none⟩) ∧ B ≤ g ∧ Bk w g 32 (rC r (.slice A r.grant.stamp.length c) (.slice A2 r.stamp.length c2)) ∧ w.ownsRow B 3 1 (.slice A r.grant.stamp.length c) r.grant.stamp.length (ints r.grant.stamp) ∧ w.ownsRow B 3 1 (.slice A2 r.stamp.length c2) r.stamp.length (ints r.stamp)
theorem RecAt.no {w w' : World} {B : Nat} {r : Rcd} {v : Value} (h : RecAt w B r v) (hk : Kp No w w') : RecAt w' B r v := by
  obtain ⟨g, A, c, A2, c2, e, h1, h2, h3, h4⟩ := h
  exact ⟨g, A, c, A2, c2, e, h1, h2.no hk, own_kp h3 hk fun _ _ m => m, own_kp h4 hk fun _ _ m => m⟩
theorem BokAt.st {w w' : World} {B B' m : Nat} {b : Bok} {v : Value} {T : TypeId} (h : BokAt w B b v) (hk : StB B' T m w w') (h0 : 25 ≠ T) (h1 : 30 ≠ T) (h2 : 3 ≠ T) : BokAt w' B b v := by
  obtain ⟨g, A, l, c, e, a1, a2, a3, a4⟩ := h
  obtain ⟨g', cs, _, _, b1, _, _, b2⟩ := hk
  exact ⟨g, A, l, c, e, a1, a2.kp b2 (fun m => a2.ne_ b1 h0 m), a3, a4.far b2 b1 h1 h2⟩
theorem OwnBk.st {w w' : World} {B B' m : Nat} {n k t : Int} {gs : List Grt} {v : Value} {T : TypeId} (h : OwnBk w B n k t gs v) (hk : StB B' T m w w') (h1 : 30 ≠ T) (h2 : 3 ≠ T) : OwnBk w' B n k t gs v := by
  obtain ⟨g', cs, _, _, b1, _, _, b2⟩ := hk
  exact h.far b2 b1 h1 h2
theorem OwnRv.st {w w' : World} {B B' m : Nat} {r : Rcd} {v : Value} {T : TypeId} (h : OwnRv w B r v) (hk : StB B' T m w w') (h2 : 3 ≠ T) : OwnRv w' B r v := by
  obtain ⟨g', cs, _, _, b1, _, _, b2⟩ := hk
  exact h.far b2 b1 h2
end Go.Proofs.Ytifdceofglocdaa

/- Append of ints to rows of a zone, for the walk. No condition beyond what each theorem states. -/
namespace Go.Proofs.Ytifdceofglocdaa
open Go Go.RowKit Go.PlainAid

theorem wp_appI (w : World) {o : Oper} {a : Act} {K : Act → World → Prop} {Q : Exit → Act → World → Prop} (s x : Operand)
    (ho : o.op = .call { callee := .builtin .append, args := #[s, x], argTypes := #[28, 28] }) (Z : Nat → Prop) (hz : ∀ k, w.heap.size ≤ k → Z k) (n : Nat) (v : Value) (hs : a.eval s = v) (h : IntZ w Z n v)
    (q m c : Nat) (hx : a.eval x = .slice (some ⟨q, 0, none⟩) m c) (L2 : List Int) (hq : Bk w q 3 (ints L2)) (hm : L2.length = m) (hm0 : 0 < m) (hn : n + m ≤ 17592186044416)
    (hk : ∀ v' w', IntZ w' Z (n + m) v' → IZ Z w w' → K (a.put o.dst v') w') : o.wp Try.prog a w K Q := by
  obtain ⟨v', w', hr, h1, h2⟩ := run_appI w Z hz o.type n v h q m c L2 hq hm hm0 hn
  unfold Oper.wp execOp
  simp only [ho, resolve, invoke, builtin, Sem.run_bind, Sem.run_pure, Result.andThen_ok, List.map_toArray, List.map_cons, List.map_nil, hs, hx, hr]
  exact hk v' w' h1 h2
theorem wpList_appI (w : World) {ops : Array Oper} {rest : List Oper} {o : Oper} {a : Act} {Q : Exit → Act → World → Prop} (hgd : o.guard = none) (s x : Operand)
    (ho : o.op = .call { callee := .builtin .append, args := #[s, x], argTypes := #[28, 28] }) (Z : Nat → Prop) (hz : ∀ k, w.heap.size ≤ k → Z k) (n : Nat) (v : Value) (hs : a.eval s = v) (h : IntZ w Z n v)
    (q m c : Nat) (hx : a.eval x = .slice (some ⟨q, 0, none⟩) m c) (L2 : List Int) (hq : Bk w q 3 (ints L2)) (hm : L2.length = m) (hm0 : 0 < m) (hn : n + m ≤ 17592186044416)
    (hk : ∀ v' w', IntZ w' Z (n + m) v' → IZ Z w w' → wpList Try.prog ops Q rest (a.put o.dst v') w') : wpList Try.prog ops Q (o :: rest) a w :=
  wpList_plain hgd fun _ hK => wp_appI w s x ho Z hz n v hs h q m c hx L2 hq hm hm0 hn fun v' w' h1 h2 => hK _ _ (hk v' w' h1 h2)
theorem dump_st4 {b : Bok} {r : Rcd} (h : r ∈ dumpB b) : r.grant.stamp.length ≤ 4 := by
  unfold dumpB at h
  split at h
  · rename_i hv
    rw [List.mem_cons, List.mem_append] at h
    rcases h with rfl | h | h
    · exact Nat.zero_le _
    · split at h
      · cases h
      · rw [List.mem_singleton] at h; subst h; exact Nat.zero_le _
    · obtain ⟨g, hg, rfl⟩ := List.mem_map.1 h
      exact (mayG_sh (hv.2.2.2.1 g hg).1).2.1
  · cases h
theorem own_iz {w w' : World} {Z : Nat → Prop} {B n size : Nat} {t : TypeId} {v : Value} {xs : List Value} (h : w.ownsRow B t size v n xs) (hk : IZ Z w w') (hT : t ≠ 3) : w'.ownsRow B t size v n xs :=
  own_kp h hk.kp fun _ e ⟨_, _, hb⟩ => own_ne h hb hT e
theorem IntZ.slice {w : World} {Z : Nat → Prop} {n : Nat} {v : Value} (h : IntZ w Z n v) : ∃ A c, v = .slice A n c := by obtain ⟨A, c, e, _⟩ := h.len; exact ⟨A, c, e⟩
end Go.Proofs.Ytifdceofglocdaa
