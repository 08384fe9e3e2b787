/- For the law of what is handed in: a list of the call's own that is known whole; Split with the place of its answer. No condition beyond what each theorem states. -/
import Derived.Test.YtfbajcgkcamnnaaDoorK2
namespace Go.Proofs.YtfbajcgkcamnnaaDoor
open Go Go.RowKit Go.PlainAid

theorem own_of_bk {w : World} {g : Nat} {cs : List Value} {base n : Nat} (h : Bk w g 9 cs) (hb : base ≤ g) (hn : cs.length = n) (hm : n ≤ maxLen) : w.ownsRow base 9 1 (.slice (some ⟨g, 0, none⟩) n n) n cs :=
  ⟨by omega, .inr ⟨g, n, cs.toArray, rfl, hb, h, Nat.le_refl _, hm, by simp [hn], by rw [Nat.mul_one]; exact List.take_of_length_le (by simp [hn])⟩⟩

def SplitOwn (w w' : World) (l : Bytes) (e : Ending) : Prop := ∃ v D, e = .returned (.tuple #[v, .int .i64 (errL l)]) ∧ tx D = (path l).getD [] ∧ Kp No w w' ∧
  ((v = .slice none 0 0 ∧ D = []) ∨ ∃ g, v = .slice (some ⟨g, 0, none⟩) D.length D.length ∧ Bk w' g 9 (D.map Value.string) ∧ w.heap.size ≤ g)
theorem split_own (s : ByteArray) (w : World) (hs : s.size ≤ maxLen) (hm : Mx w) : Calls Tryd.prog 13 #[.string s] w fun e w' => SplitOwn w w' s.data.toList e := by
  refine (split_any s w hs hm).mono fun e w' h => ?_
  unfold SplitAns at h
  unfold SplitOwn errL
  split at h
  · rename_i hp
    obtain ⟨rfl, rfl⟩ := h
    rw [hp]
    exact ⟨_, [], rfl, rfl, Kp.refl _ _, .inl ⟨rfl, rfl⟩⟩
  · rename_i hp
    obtain ⟨rfl, rfl⟩ := h
    rw [hp]
    exact ⟨_, [], rfl, rfl, Kp.refl _ _, .inl ⟨rfl, rfl⟩⟩
  · rename_i hp
    obtain ⟨L, g, rfl, hL, hb, hg, hk⟩ := h
    rw [hp]
    exact ⟨_, L, rfl, hL, hk, .inr ⟨g, rfl, hb, hg⟩⟩
theorem arg_of_own {w w' : World} {v : Value} {D : List ByteArray} (h : (v = .slice none 0 0 ∧ D = []) ∨ ∃ g, v = .slice (some ⟨g, 0, none⟩) D.length D.length ∧ Bk w' g 9 (D.map Value.string) ∧ w.heap.size ≤ g) : ArgStrs w' v D := by
  rcases h with ⟨rfl, rfl⟩ | ⟨g, rfl, hb, _⟩
  · exact ArgStrs.nil _ _ _
  · exact hb.strs
theorem own_pre {w : World} {B g n cap : Nat} {L : List ByteArray} {x : Value} (h : w.ownsRow B 9 1 (.slice (some ⟨g, 0, none⟩) (n + 1) cap) (n + 1) (L.map Value.string ++ [x])) (hl : L.length = n) :
    ArgStrs w (.slice (some ⟨g, 0, none⟩) n cap) L ∧ w.cell? ⟨g, n, none⟩ = some x ∧ n + 1 ≤ cap ∧ B ≤ g ∧ g < w.heap.size := by
  subst hl
  obtain ⟨hb, hlt⟩ := h.lt g rfl
  have hcap : L.length + 1 ≤ cap := by
    rcases h.2 with ⟨hh, _⟩ | ⟨g', cap', cur, hv, _, _, hc, _⟩
    · cases hh
    · injection hv with _ _ hv; omega
  refine ⟨⟨_, cap, rfl, by omega, fun _ => ⟨g, 0, rfl, fun j v hv => ?_⟩⟩, ?_, hcap, hb, hlt⟩
  · have hj : j < L.length := by
      rcases Nat.lt_or_ge j L.length with h' | h'
      · exact h'
      · rw [List.getElem?_eq_none (by simpa using h')] at hv; cases hv
    rw [Nat.zero_add, h.cellAt j (by omega), List.getElem?_append_left (by simpa using hj)]; exact hv
  · rw [h.cellAt L.length (by omega)]; simp
/-- Split's answer as a row of the call's own -/
theorem own_of_split {w w' : World} {B : Nat} {v : Value} {D : List ByteArray} (hB : B ≤ w.heap.size) (hD : D.length ≤ 4) (h : (v = .slice none 0 0 ∧ D = []) ∨ ∃ g, v = .slice (some ⟨g, 0, none⟩) D.length D.length ∧ Bk w' g 9 (D.map Value.string) ∧ w.heap.size ≤ g) :
    ∃ xs, w'.ownsRow B 9 1 v D.length xs := by
  rcases h with ⟨rfl, rfl⟩ | ⟨g, rfl, hb, hg⟩
  · exact ⟨[], World.ownsRow_nil _ _ _ _⟩
  · exact ⟨_, own_of_bk hb (by omega) (by simp) (by unfold maxLen; omega)⟩
theorem far_of_split {w w' : World} {v : Value} {D : List ByteArray} (h : (v = .slice none 0 0 ∧ D = []) ∨ ∃ g, v = .slice (some ⟨g, 0, none⟩) D.length D.length ∧ Bk w' g 9 (D.map Value.string) ∧ w.heap.size ≤ g) :
    ∀ g o n c, v = .slice (some ⟨g, o, none⟩) n c → w.heap.size ≤ g := by
  intro g o n c e
  rcases h with ⟨rfl, _⟩ | ⟨g', rfl, _, hg⟩
  · cases e
  · injection e with e; injection e with e; injection e with e; omega
theorem own_form {w : World} {B n : Nat} {v : Value} {xs : List Value} (h : w.ownsRow B 9 1 v n xs) (hn : 0 < n) : ∃ g cap, v = .slice (some ⟨g, 0, none⟩) n cap ∧ n ≤ cap := by
  rcases h.2 with ⟨_, h0⟩ | ⟨g, cap, cur, hv, _, _, hc, _⟩
  · omega
  · exact ⟨g, cap, hv, hc⟩
theorem own_len {w : World} {B n : Nat} {v : Value} {xs : List Value} (h : w.ownsRow B 9 1 v n xs) : ∃ A c, v = .slice A n c := by
  rcases h.2 with ⟨rfl, rfl⟩ | ⟨g, cap, cur, hv, _, _, hc, _⟩
  · exact ⟨_, _, rfl⟩
  · exact ⟨_, _, hv⟩
end Go.Proofs.YtfbajcgkcamnnaaDoor
