/- Image, with each row's block told whole. No condition beyond what each theorem states. -/
import Derived.Test.YtaohaofjbgghgaaK
namespace Go.Proofs.Ytaohaofjbgghgaa
open Go Go.RowKit
/-- one fresh sector -/
def RowX (w : World) (B : Nat) (av : Option Nat) (x : Value) (l : List UInt8) : Prop :=
  ∃ g, x = .slice (some ⟨g, 0, none⟩) 64 64 ∧ B ≤ g ∧ av ≠ some g ∧ Bk w g 61 (u8s l)
theorem RowX.keep {w w' : World} {B : Nat} {av av' : Option Nat} {x : Value} {l : List UInt8} {M : Nat → Prop} (h : RowX w B av x l) (hk : Kp M w w')
    (hm : ∀ g, g < w.heap.size → B ≤ g → av ≠ some g → ¬ M g ∧ av' ≠ some g) : RowX w' B av' x l := by
  obtain ⟨g, e, hb, ha, hbk⟩ := h
  obtain ⟨h1, h2⟩ := hm g hbk.lt hb ha
  exact ⟨g, e, hb, h2, hbk.kp hk h1⟩
structure RowsX (w : World) (B : Nat) (v : Value) (L : List (List UInt8)) : Prop where
  ex : ∃ xs : List Value, w.ownsRow B 33 1 v L.length xs ∧ ∀ i (h : i < L.length), ∃ x, xs[i]? = some x ∧ RowX w B v.ownBlock x L[i]
theorem RowsX.nil (w : World) (B : Nat) : RowsX w B (.slice none 0 0) [] := ⟨[], World.ownsRow_nil _ _ _ _, by intro i hi; simp at hi⟩
theorem RowsX.push {wr w2 w1 : World} {B : Nat} {v : Value} {L : List (List UInt8)} {l : List UInt8} {x : Value} {xs : List Value}
    (hown : wr.ownsRow B 33 1 v L.length xs) (hrows : ∀ i (h : i < L.length), ∃ x, xs[i]? = some x ∧ RowX wr B v.ownBlock x L[i])
    (h2 : Kp No wr w2) (hx : RowX w2 wr.heap.size none x l) (hB : B ≤ wr.heap.size) {g1 cap1 : Nat} (hown1 : w1.ownsRow B 33 1 (.slice (some ⟨g1, 0, none⟩) (L.length + 1) cap1) (L.length + 1) (xs ++ [x])) (hk1 : Kp (fun k => v.ownBlock = some k) w2 w1)
    (hat : v.ownBlock = some g1 ∨ g1 = w2.heap.size) : RowsX w1 B (.slice (some ⟨g1, 0, none⟩) (L.length + 1) cap1) (L ++ [l]) := by
  have hxs : xs.length = L.length := by have := hown.1; omega
  have hav : ∀ g, g < w2.heap.size → v.ownBlock ≠ some g → (Value.slice (some ⟨g1, 0, none⟩) (L.length + 1) cap1).ownBlock ≠ some g := by
    intro g hg hn e'
    have e2 : g1 = g := by simpa [Value.ownBlock] using e'
    rcases hat with e | e
    · rw [e, e2] at hn; exact hn rfl
    · omega
  refine ⟨xs ++ [x], by simpa using hown1, fun i hi => ?_⟩
  by_cases hlt : i < L.length
  · obtain ⟨y, hy, hr⟩ := hrows i hlt
    refine ⟨y, by rw [List.getElem?_append_left (by omega)]; exact hy, ?_⟩
    rw [List.getElem_append_left hlt]
    have hr2 := hr.keep (av' := v.ownBlock) h2 (fun g _ _ h => ⟨fun m => m, h⟩)
    exact hr2.keep hk1 (fun g hg _ h => ⟨h, hav g hg h⟩)
  · have hi' : i = L.length := by simp at hi; omega
    subst hi'
    refine ⟨x, by rw [List.getElem?_append_right (by omega), hxs]; simp, ?_⟩
    simp only [List.getElem_concat_length]
    obtain ⟨g, e, hb, ha, hbk⟩ := hx
    have hne : v.ownBlock ≠ some g := by
      intro e; have := hown.lt g e; omega
    exact ⟨g, e, by omega, hav g hbk.lt hne, hbk.kp hk1 hne⟩
/-- the list stays where neither its own row nor its sectors change -/
theorem RowsX.kp {w w' : World} {B : Nat} {v : Value} {L : List (List UInt8)} {M : Nat → Prop} (h : RowsX w B v L) (hk : Kp M w w') (hM : ∀ g, B ≤ g → g < w.heap.size → ¬ M g) : RowsX w' B v L := by
  obtain ⟨xs, hown, hrows⟩ := h
  refine ⟨xs, own_kp hown hk fun g hg => hM g (hown.lt g hg).1 (hown.lt g hg).2, fun i hi => ?_⟩
  obtain ⟨x, hx, g, e, hb, ha, hbk⟩ := hrows i hi
  exact ⟨x, hx, g, e, hb, ha, hbk.kp hk (hM g hb hbk.lt)⟩
set_option maxHeartbeats 1000000 in
theorem image_x (b sb cap : Nat) (w : World) (L : List (List UInt8)) (wr : Int) (ar : Bool) (lf : Int) (off : Bool) (h : Dk w b sb cap L wr ar lf off) :
    Calls Try.prog 18 #[.pointer (some ⟨b, 0, none⟩)] w fun e w' => ∃ v, e = .returned v ∧ RowsX w' w.heap.size v L ∧ Kp No w w' := by
  have hst := h.st
  obtain ⟨sp, hse⟩ := h.se
  have hn2 := h.n2
  have hle := h.le
  have hu61 := Try.underlying61
  have hsn := fun (W : World) (xs : List Value) (h1 : xs.length = 64) (h2 : ∀ v ∈ xs, v.oneCell' = true) => store_new61 W xs h1 h2
  go_enter Try.func18, Try.ntmps18
  go_wp2_with (go_at_call 24; refine (len_any b _ _ _ _ wr ar lf off hst).mono ?_; rintro e w' ⟨rfl, rfl⟩)
  go_loopw [8, 4, 5, 3] (fun i _ _ v wr => ∃ k : Nat, k ≤ L.length ∧ i = .int .i64 k ∧ RowsX wr w.heap.size v (L.take k) ∧ Kp No w wr) (fun i _ _ _ _ => L.length - (intOf i).toNat)
  case atStart => exact ⟨0, Nat.zero_le _, rfl, RowsX.nil _ _, Kp.refl _ _⟩
  case round =>
    obtain ⟨k, hk, rfl, ⟨vs, hown, hrows⟩, hkp⟩ := hrel
    by_cases hlt : k < L.length
    · have hstr := hst.no hkp
      have hser := hse.no hkp
      have h0 : wr.cell? ⟨b, 0, none⟩ = some (.slice (some ⟨sb, 0, none⟩) L.length cap) := hstr.cell 0
      have hra := hser.range (64 * k) 64
      rw [secC_get L hle k hlt sp, show 64 * k = k * 64 by omega] at hra
      have hxl : (u8s L[k]).length = 64 := by rw [u8s_length, hle _ (List.getElem_mem hlt)]
      have hx1 := u8s_one L[k]
      generalize hxs : u8s L[k] = xs at *
      have HX := Lib.hid hxs; clear hxs
      have hsz : (Try.prog.info? 61).map (·.size) = some xs.length := by rw [hxl]; exact u61
      have hsn1 := hsn wr xs hxl hx1
      clear hsn
      have hlen : (L.take k).length = k := by simp; omega
      have hown0 := hown
      rw [hlen] at hown
      have HR := Lib.hid hrows; clear hrows
      have HO := Lib.hid hown0; clear hown0
      have HN := Lib.hid hlen; clear hlen
      go_wp2_with (first | (refine wpList_load_mid rfl 61 _ rfl sb (k * 64) rfl xs _ hra Try.underlying61 rfl hsz ?_) | (at_builtin; refine wpList_app1 _ rfl _ _ _ rfl w.heap.size 33 _ 1 24 Try.underlying40 Try.info33 rfl (by omega) _ k vs rfl ((hown.alloc _).alloc _) _ _ _ rfl (Bk.new' (by simp) rfl) rfl (by simp [Value.oneCell']) (by omega) (by omega) (by simp; have := hkp.size; omega) ?_; intro g1 cap1 w1 hown1 hk1 hat1))
      go_roundw
      case rel =>
        refine ⟨k + 1, by omega, by go_num, ?_, ?_⟩
        · rw [List.take_add_one, List.getElem?_eq_getElem hlt]
          have hpush := RowsX.push (l := L[k]) (x := .slice (some ⟨wr.heap.size, 0, none⟩) 64 64) HO.out HR.out (((Kp.refl _ _).alloc _).alloc _) ?_ hkp.size (by rw [HN.out]; exact hown1) hk1 hat1
          · rw [HN.out] at hpush
            exact hpush
          refine ⟨wr.heap.size, rfl, by omega, by simp, ?_⟩
          rw [HX.out]
          exact Bk.alloc (Bk.new' rfl rfl) _
        · refine ((hkp.alloc _).alloc _).then_ hk1 fun i hi e => ?_
          have := HO.out.lt i e
          omega
      case measure => simp [intOf]; omega
    · have hk' : k = L.length := by omega
      subst hk'
      rw [List.take_length] at hown hrows
      go_wp2
      go_ret
      exact ⟨_, rfl, ⟨vs, hown, hrows⟩, hkp⟩

theorem OkRow.sb {w w' : World} {Z : Nat → Prop} {n : Nat} {v : Value} (h : OkRow w Z n v) (k : ∀ g s, SB w g s → SB w' g s) : OkRow w' Z n v := by
  obtain ⟨g, c, s, e, h1, h2, h3, h4⟩ := h
  exact ⟨g, c, s, e, h1, h2, h3, k g s h4⟩
theorem OkRow.one {w : World} {Z : Nat → Prop} {n : Nat} {v : Value} (h : OkRow w Z n v) : v.oneCell' = true := by
  obtain ⟨g, c, s, rfl, _⟩ := h; rfl
/-- a fresh cell -/
def NewC (w : World) (v : Value) : Prop := ∃ q s, v = .slice (some ⟨q, 0, none⟩) 1 1 ∧ SB w q s ∧ 0 < s
theorem NewC.sb {w w' : World} {v : Value} (h : NewC w v) (k : ∀ g s, SB w g s → SB w' g s) : NewC w' v := by
  obtain ⟨q, s, e, h1, h2⟩ := h
  exact ⟨q, s, e, k q s h1, h2⟩
theorem NewC.mk' (w : World) (u : Value) (hu : u.oneCell' = true) : NewC (w.alloc (.cells #[u] 5)) (.slice (some ⟨w.heap.size, 0, none⟩) 1 1) :=
  ⟨_, 1, rfl, SB.of (cs := [u]) (Bk.new' rfl rfl) (fun v hv => by
    cases hv with
    | head => exact hu
    | tail _ h => cases h), by omega⟩
/-- the rows p and their list, while one more cell is put behind each: a b c tell which have been stored -/
def FB (Z : Nat → Prop) (gp n : Nat) (w0 : World) (a b c : Bool) (w : World) : Prop :=
  Kp (fun g => Z g ∨ g = gp) w0 w ∧ ∃ cs, Bk w gp 33 cs ∧ (∃ y, cs[0]? = some y ∧ OkRow w Z (bif a then n + 1 else n) y) ∧ (∃ y, cs[1]? = some y ∧ OkRow w Z (bif b then n + 1 else n) y) ∧ (∃ y, cs[2]? = some y ∧ OkRow w Z (bif c then n + 1 else n) y)
section
variable {Z : Nat → Prop} {gp n : Nat} {w0 w w' : World} {a b c : Bool}
theorem FB.stp (h : FB Z gp n w0 a b c w) (hz : ¬ Z gp) (k : Stp Z w w') : FB Z gp n w0 a b c w' := by
  obtain ⟨h1, cs, h2, ⟨y0, a0, b0⟩, ⟨y1, a1, b1⟩, ⟨y2, a2, b2⟩⟩ := h
  exact ⟨h1.trans (k.kp.mono fun g _ m => .inl m), cs, h2.kp k.kp hz, ⟨y0, a0, b0.stp k⟩, ⟨y1, a1, b1.stp k⟩, ⟨y2, a2, b2.stp k⟩⟩
theorem set_sb {g i : Nat} {u : Value} (hu : u.oneCell' = true) : ∀ g' s, SB w g' s → SB (w.setCell ⟨g, i, none⟩ u) g' s := fun _ _ h => h.set g i hu
theorem get_set {cs : List Value} {i j : Nat} {y u : Value} (h : cs[j]? = some y) (hne : i ≠ j) : (cs.set i u)[j]? = some y := by rw [List.getElem?_set_ne hne]; exact h
theorem get_self {cs : List Value} {i : Nat} {y u : Value} (h : cs[i]? = some y) : (cs.set i u)[i]? = some u := List.getElem?_set_self (List.getElem?_eq_some_iff.1 h).1
theorem FB.store0 {y : Value} (h : FB Z gp n w0 a b c w) (hy : OkRow w Z (n + 1) y) : FB Z gp n w0 true b c (w.setCell ⟨gp, 0, none⟩ y) := by
  obtain ⟨h1, cs, h2, ⟨y0, a0, b0⟩, ⟨y1, a1, b1⟩, ⟨y2, a2, b2⟩⟩ := h
  have s := set_sb (w := w) (g := gp) (i := 0) hy.one
  exact ⟨h1.set (.inl (.inr rfl)) _ _, _, h2.set_ 0 y, ⟨y, get_self a0, hy.sb s⟩, ⟨y1, get_set a1 (by decide), b1.sb s⟩, ⟨y2, get_set a2 (by decide), b2.sb s⟩⟩
theorem FB.store1 {y : Value} (h : FB Z gp n w0 a b c w) (hy : OkRow w Z (n + 1) y) : FB Z gp n w0 a true c (w.setCell ⟨gp, 1, none⟩ y) := by
  obtain ⟨h1, cs, h2, ⟨y0, a0, b0⟩, ⟨y1, a1, b1⟩, ⟨y2, a2, b2⟩⟩ := h
  have s := set_sb (w := w) (g := gp) (i := 1) hy.one
  exact ⟨h1.set (.inl (.inr rfl)) _ _, _, h2.set_ 1 y, ⟨y0, get_set a0 (by decide), b0.sb s⟩, ⟨y, get_self a1, hy.sb s⟩, ⟨y2, get_set a2 (by decide), b2.sb s⟩⟩
theorem FB.store2 {y : Value} (h : FB Z gp n w0 a b c w) (hy : OkRow w Z (n + 1) y) : FB Z gp n w0 a b true (w.setCell ⟨gp, 2, none⟩ y) := by
  obtain ⟨h1, cs, h2, ⟨y0, a0, b0⟩, ⟨y1, a1, b1⟩, ⟨y2, a2, b2⟩⟩ := h
  have s := set_sb (w := w) (g := gp) (i := 2) hy.one
  exact ⟨h1.set (.inl (.inr rfl)) _ _, _, h2.set_ 2 y, ⟨y0, get_set a0 (by decide), b0.sb s⟩, ⟨y1, get_set a1 (by decide), b1.sb s⟩, ⟨y, get_self a2, hy.sb s⟩⟩
theorem FB.cell0 (h : FB Z gp n w0 a b c w) : ∃ y, w.cell? ⟨gp, 0, none⟩ = some y ∧ OkRow w Z (bif a then n + 1 else n) y ∧ w.frozen? ⟨gp, 0, none⟩ = false := by
  obtain ⟨h1, cs, h2, ⟨y0, a0, b0⟩, _⟩ := h
  exact ⟨y0, by rw [h2.cell]; exact a0, b0, h2.frozen 0⟩
theorem FB.cell1 (h : FB Z gp n w0 a b c w) : ∃ y, w.cell? ⟨gp, 1, none⟩ = some y ∧ OkRow w Z (bif b then n + 1 else n) y ∧ w.frozen? ⟨gp, 1, none⟩ = false := by
  obtain ⟨h1, cs, h2, _, ⟨y1, a1, b1⟩, _⟩ := h
  exact ⟨y1, by rw [h2.cell]; exact a1, b1, h2.frozen 1⟩
theorem FB.cell2 (h : FB Z gp n w0 a b c w) : ∃ y, w.cell? ⟨gp, 2, none⟩ = some y ∧ OkRow w Z (bif c then n + 1 else n) y ∧ w.frozen? ⟨gp, 2, none⟩ = false := by
  obtain ⟨h1, cs, h2, _, _, ⟨y2, a2, b2⟩⟩ := h
  exact ⟨y2, by rw [h2.cell]; exact a2, b2, h2.frozen 2⟩
theorem FB.next (h : FB Z gp n w0 true true true w) : FB Z gp (n + 1) w0 false false false w := h
end
theorem image_nil (w : World) : Calls Try.prog 18 #[.pointer none] w fun e w' => e = .returned (.slice none 0 0) ∧ w = w' := by
  go_enter Try.func18, Try.ntmps18
  go_wp2_with (go_at_call 24; refine (len_nil _).mono ?_; rintro e w' ⟨rfl, rfl⟩)
  go_loopw [8, 4, 5, 3] (fun i _ _ v wr => i = .int .i64 0 ∧ v = .slice none 0 0 ∧ w = wr) (fun _ _ _ _ _ => 0)
  case atStart => exact ⟨rfl, rfl, rfl⟩
  case round =>
    obtain ⟨rfl, rfl, rfl⟩ := hrel
    go_wp2
    go_ret
    exact ⟨rfl, rfl⟩
theorem zero_else {i j : Nat} {S : List UInt8} (h : i < ((List.replicate 3 zeroB).set j S).length) (hne : i ≠ j) : ((List.replicate 3 zeroB).set j S)[i] = zeroB := by
  rw [List.getElem_set_ne (fun e => hne e.symm)]
  exact List.getElem_replicate ..
theorem own_formK {w : World} {B n size : Nat} {t : TypeId} {v : Value} {xs : List Value} (h : w.ownsRow B t size v n xs) (hn : 0 < n) : ∃ g cap, v = .slice (some ⟨g, 0, none⟩) n cap ∧ n ≤ cap ∧ B ≤ g ∧ g < w.heap.size := by
  rcases h.2 with ⟨_, h0⟩ | ⟨g, cap, cur, hv, _, _, hc, _⟩
  · omega
  · have := h.lt g (by rw [hv]; rfl)
    exact ⟨g, cap, hv, hc, this.1, this.2⟩
end Go.Proofs.Ytaohaofjbgghgaa
