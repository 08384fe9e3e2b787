/- Several texts of this claim in one. No condition beyond what each theorem states. -/
import Derived.Test.YtifdceofglocdaaB24
import Derived.Test.YtifdceofglocdaaB09
import Derived.Test.YtifdceofglocdaaB11
/- The document's Find by contract. No condition beyond what each theorem states. -/
namespace Go.Proofs.Ytifdceofglocdaa
open Go Go.RowKit Go.PlainAid

/-- where the grant with an Id stands -/
def FindR (l : List Grt) (id z : Int) : Prop := (z = -1 ∧ ∀ g ∈ l, g.id ≠ id) ∨ ∃ (i : Nat) (g : Grt), z = (i : Int) ∧ l[i]? = some g ∧ g.id = id
set_option maxRecDepth 100000 in
set_option maxHeartbeats 1000000 in
theorem rfind_any (v : Value) (l : List GP) (id : Int) (W : World) (hv : ArgG W v l) (hl : l.length ≤ maxLen) :
    Calls Try.prog 40 #[v, .int .i64 id] W fun e w' => ∃ z, e = .returned (.int .i64 z) ∧ FindR (gsL l) id z ∧ W = w' := by
  have HV := Lib.hid hv
  obtain ⟨A, c, rfl, _⟩ := hv.len
  have hl2 : l.length ≤ 9223372036854775807 := by unfold maxLen at hl; omega
  clear hv hl
  go_enter Try.func40, Try.ntmps40
  go_wp2
  go_loopw [5] (fun i wr => ∃ j : Nat, j ≤ l.length ∧ i = .int .i64 j ∧ (∀ (k : Nat) (g : Grt), k < j → (gsL l)[k]? = some g → g.id ≠ id) ∧ W = wr) (fun i _ => l.length - (intOf i).toNat)
  case atStart => exact ⟨0, Nat.zero_le _, rfl, (fun k g h => absurd h (Nat.not_lt_zero _)), rfl⟩
  case round =>
    obtain ⟨j, hj, rfl, hno, rfl⟩ := hrel
    have HN := Lib.hid hno
    clear hno
    by_cases hlt : j < l.length
    · have hk0 : (0 : Int) ≤ (j : Int) := by omega
      have hk1 : (j : Int) < (l.length : Int) := by omega
      obtain ⟨g, o, gid, hol, path, mode, st, term, B, d, rfl, el, ha, hml, x0, x1, x2, x3, x4, x5⟩ := HV.out.cells hlt
      have HE := Lib.hid (show (gsL l)[j]? = some ⟨gid, hol, path, mode, st, term⟩ by
        unfold gsL; rw [List.getElem?_map, List.getElem?_eq_getElem hlt, el]; rfl)
      clear hlt el ha hml x1 x2 x3 x4 x5
      by_cases hid : gid = id
      · go_wp2
        go_ret
        exact ⟨_, rfl, .inr ⟨j, _, rfl, HE.out, hid⟩, rfl⟩
      · go_wp2
        go_roundw
        case rel =>
          refine ⟨j + 1, by omega, by go_num, fun k g2 hk hg => ?_, by first | trivial | rfl⟩
          rcases Nat.lt_or_ge k j with h | h
          · exact HN.out k g2 h hg
          · obtain rfl : k = j := by omega
            rw [HE.out] at hg
            injection hg with hg
            subst hg
            exact hid
        case measure => simp [intOf]; omega
    · have hk1 : ¬ (j : Int) < (l.length : Int) := by omega
      have hjl : j = l.length := by omega
      clear hlt
      go_wp2
      go_ret
      refine ⟨_, rfl, .inl ⟨rfl, fun g hg => ?_⟩, rfl⟩
      obtain ⟨k, hk, e⟩ := List.mem_iff_getElem.1 hg
      rw [gsL_len] at hk
      exact HN.out k g (by omega) (by rw [← e]; exact List.getElem?_eq_getElem _)
end Go.Proofs.Ytifdceofglocdaa

/- The document's without by contract. No condition beyond what each theorem states. -/
namespace Go.Proofs.Ytifdceofglocdaa
open Go Go.RowKit Go.PlainAid

/-- the grants but that with an Id, as they stand in memory -/
def outP (l : List GP) (id : Int) : List GP := l.filter fun p => decide (p.1.id ≠ id)
theorem outP_snoc (l : List GP) (id : Int) (j : Nat) (h : j < l.length) : outP (l.take (j + 1)) id = outP (l.take j) id ++ (if l[j].1.id = id then [] else [l[j]]) := by
  unfold outP
  rw [List.take_succ_eq_append_getElem h, List.filter_append]
  congr 1
  by_cases e : l[j].1.id = id <;> simp [e]
theorem outP_len (l : List GP) (id : Int) (j : Nat) : (outP (l.take j) id).length ≤ j := by
  unfold outP
  exact Nat.le_trans (List.length_filter_le _ _) (by rw [List.length_take]; omega)
set_option maxRecDepth 100000 in
set_option maxHeartbeats 2000000 in
theorem rwithout_any (v : Value) (l : List GP) (id : Int) (W : World) (hv : ArgG W v l) (hl : l.length ≤ 1954687338211) :
    Calls Try.prog 42 #[v, .int .i64 id] W fun e w' => ∃ sv, e = .returned sv ∧ w'.ownsRow W.heap.size 30 6 sv (outP l id).length (pL (outP l id)) ∧ Kp No W w' := by
  have HV := Lib.hid hv
  obtain ⟨A, c, rfl, _⟩ := hv.len
  clear hv
  go_enter Try.func42, Try.ntmps42
  go_wp2
  go_loopw [6, 5] (fun i o wr => ∃ j : Nat, j ≤ l.length ∧ i = .int .i64 j ∧ wr.ownsRow W.heap.size 30 6 o (outP (l.take j) id).length (pL (outP (l.take j) id)) ∧ Kp No W wr) (fun i _ _ => l.length - (intOf i).toNat)
  case atStart => exact ⟨0, Nat.zero_le _, rfl, nil_own _ _ _ _, Kp.refl _ _⟩
  case round =>
    obtain ⟨j, hj, rfl, ho, hk⟩ := hrel
    have HO := Lib.hid ho; have HK := Lib.hid hk
    clear ho hk
    by_cases hlt : j < l.length
    · have hk0 : (0 : Int) ≤ (j : Int) := by omega
      have hk1 : (j : Int) < (l.length : Int) := by omega
      obtain ⟨g, o, gid, hol, path, mode, st, term, B, d, rfl, el, ha, hml, x0, x1, x2, x3, x4, x5⟩ := (HV.out.no HK.out).cells hlt
      have HS := Lib.hid (outP_snoc l id j hlt)
      have HE := Lib.hid (show l[j] = (⟨gid, hol, path, mode, st, term⟩, .slice B st.length d) from el)
      clear hml
      have hml := outP_len l id j
      rw [HE.out] at HS
      clear HE el ha hlt
      by_cases hid : gid = id
      · rw [if_pos (show (⟨gid, hol, path, mode, st, term⟩ : Grt).id = id from hid), List.append_nil] at HS
        go_wp2
        go_roundw
        case rel => exact ⟨j + 1, by omega, by go_num, by rw [HS.out]; exact HO.out, HK.out⟩
        case measure => simp [intOf]; omega
      · rw [if_neg (show ¬ (⟨gid, hol, path, mode, st, term⟩ : Grt).id = id from hid)] at HS
        obtain ⟨m, hm⟩ : ∃ m, m = outP (l.take j) id := ⟨_, rfl⟩
        rw [← hm] at HO HS hml
        clear hm
        obtain ⟨Ao, co, hao, _⟩ := own_len HO.out
        subst hao
        have hsz := HK.out.size
        have hmb : m.length + 1 ≤ 1954687338211 := by omega
        go_wp2_with (at_builtin; go_must (refine wpList_app1 _ rfl _ _ 23 rfl W.heap.size 30 _ 6 72 Try.underlying23 Try.infoGr rfl (by omega) _ m.length (pL m) rfl (HO.out.alloc _) _ _ _ rfl (Bk.new' rfl rfl : Bk _ _ _ [.int .i64 gid, .int .i64 hol, .string ⟨path.toArray⟩, .int .i64 mode, .slice B st.length d, .int .i64 term]) rfl (by simp [Value.oneCell']) (by omega) (by omega) (by simp; omega) ?_); intro g5 cap5 w5 hown5 hk5 hat5)
        have HO5 := Lib.hid hown5; have HK5 := Lib.hid hk5
        clear hown5 hk5 hat5
        go_roundw
        case rel =>
          refine ⟨j + 1, by omega, by go_num, ?_, (HK.out.alloc _).then_ HK5.out fun i hi e => by have := (HO.out.lt i e).1; omega⟩
          rw [HS.out, pL_append, List.length_append]
          exact HO5.out
        case measure => simp [intOf]; omega
    · have hk1 : ¬ (j : Int) < (l.length : Int) := by omega
      have hjl : j = l.length := by omega
      rw [hjl, List.take_length] at HO
      clear hlt hjl
      go_wp2
      go_ret
      exact ⟨_, rfl, HO.out, HK.out⟩
end Go.Proofs.Ytifdceofglocdaa
