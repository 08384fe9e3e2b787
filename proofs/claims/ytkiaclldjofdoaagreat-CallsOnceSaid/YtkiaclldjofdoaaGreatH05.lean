/- Several texts of this claim in one. No condition beyond what each theorem states. -/
import Derived.Test.YtkiaclldjofdoaaGreatH02
import Derived.Test.YtkiaclldjofdoaaGreatKeys
/- The keys of the map, sorted; List by contract. No condition beyond what each theorem states. -/
namespace Go.Proofs.YtkiaclldjofdoaaGreat
open Go Go.RowKit Go.Maps Go.Sort Go.Shelf Go.PlainAid

/-- slices.Sort's two contracts at this program -/
theorem sorts14 (m : Nat) : AnyZI.SortsIn Tryz.prog Tryz.sortedA_ren Fence.wide m :=
  ⟨fun blk off cap ss W hH hblk hsz => callsIn_wide.2 (AnyM.slices_Sort_int Tryz.sortA blk off cap ss W hH hblk hsz),
   fun p cap W => callsIn_wide.2 (AnyM.slices_Sort_int_none Tryz.sortA p cap W)⟩

/-- maps.Keys -/
theorem keys_any (mb : Nat) (W : World) : Calls Tryz.prog 34 #[.map (some mb)] W fun e w' =>
    e = .returned (.func (.func 52) #[] #[.pointer (some ⟨W.heap.size, 0, none⟩)]) ∧ w' = W.alloc (.cells #[.map (some mb)] 64) :=
  (callsIn_wide (n := 6)).1 (AnyZI.keys_in Tryz.keysA Fence.wide 6 trivial rfl (some mb) W)

/-- slices.Sorted over it -/
theorem sorted_any (mb : Nat) (l : List Cll) (w : World) (hown : OwnM Tryz.prog w 3 mb l) (hmax : l.length ≤ 1000) :
    Calls Tryz.prog 33 #[.func (.func 52) #[] #[.pointer (some ⟨w.heap.size, 0, none⟩)]] (w.alloc (.cells #[.map (some mb)] 64)) fun e w' =>
      ∃ (v : Value) (ss : List Int), e = .returned v ∧ ss.Perm (l.map Cll.seq) ∧
      w'.ownsRow w.heap.size 3 1 v ss.length ((ss.mergeSort (fun x y => decide (x ≤ y))).map encZ) ∧ Kp No w w' := by
  refine (callsIn_wide (n := 5)).1 ?_
  have hbl := hown.lt
  have hseq : SeqGives Fence.wide 2 Tryz.prog 52 #[.pointer (some ⟨w.heap.size, 0, none⟩)] encZ (fun ss => ss.Perm (intKeys (mapC (H := Unit) l))) (Maps.size (mapC (H := Unit) l)) (w.alloc (.cells #[.map (some mb)] 64)) :=
    AnyZI.keys_gives (ρ := Tryz.keysA_ren) { Tryz.keysA with } Fence.wide _ trivial rfl (by omega) w.heap.size mb l.length (mapC l) _ (by simp) (by simp) (by
      obtain ⟨es, clock, hb, Ft, hs, hD⟩ := hown
      exact ⟨es, clock, (Below.heap_alloc _ _ mb hbl).trans hb, Ft, hs, hD⟩)
  have hM1 : Maps.size (mapC (H := Unit) l) ≤ maxLen := by rw [mapC_size]; unfold maxLen; omega
  have hM2 : Maps.size (mapC (H := Unit) l) * 8 ≤ 140737488355328 := by rw [mapC_size]; omega
  have cS := AnyZI.sorted_in Tryz.sortedA Fence.wide 5 trivial trivial trivial trivial rfl (by omega) (sorts14 _) (enters_of Tryz.func51 (by kernel_rfl) rfl) 52 #[.pointer (some ⟨w.heap.size, 0, none⟩)] trivial (enters_of Tryz.func52 (by kernel_rfl) rfl) _ _ hM1 hM2 _ hseq
  refine cS.mono ?_
  rintro e w' ⟨v, ss, rfl, hS, hrow, hnil, hb⟩
  rw [mapC_keys] at hS
  exact ⟨v, ss, rfl, hS, own_mono hrow (by simp), ((Kp.refl No w).alloc _).trans (Kp.of_below hb)⟩
end Go.Proofs.YtkiaclldjofdoaaGreat

/- List by contract. No condition beyond what each theorem states. -/
namespace Go.Proofs.YtkiaclldjofdoaaGreat
open Go Go.RowKit Go.Maps Go.PlainAid

theorem listO_any (b mb : Nat) (c : Cls) (W : World) (h : OwnCs W b mb c) (hc : CsOk c) :
    ∀ w (_ : Kp No W w), Calls Tryz.prog 33 #[.func (.func 52) #[] #[.pointer (some ⟨w.heap.size, 0, none⟩)]] (w.alloc (.cells #[.map (some mb)] 64)) fun e w' =>
      ∃ A cp, e = .returned (.slice A c.opn.length cp) ∧ ArgInts w' (.slice A c.opn.length cp) (c.opn.map Cll.seq) ∧ Kp No W w' := fun w k => by
  refine (sorted_any mb c.opn w (h.no k).2 (Nat.le_trans hc.len (by decide))).mono ?_
  rintro e w' ⟨v, ss, rfl, hp, ho, hk⟩
  have h1 : (ss.mergeSort (fun x y => decide (x ≤ y))).map encZ = ints (c.opn.map Cll.seq) := by
    rw [ris_sorted hc.ris hp]; rfl
  have h2 : ss.length = c.opn.length := by have := hp.length_eq; simpa using this
  rw [h1] at ho
  obtain ⟨A, cp, e, hcp⟩ := own_len ho
  rw [e, h2] at ho
  exact ⟨A, cp, by rw [e, h2], own_argI ho, k.trans hk⟩

set_option maxRecDepth 100000 in
set_option maxHeartbeats 4000000 in
theorem list_any (b mb : Nat) (c : Cls) (W : World) (h : OwnCs W b mb c) (hc : CsOk c) :
    Calls Tryz.prog 26 #[.pointer (some ⟨b, 0, none⟩)] W fun e w' => ∃ v, e = .returned v ∧ w'.ownsRow W.heap.size 32 10 v c.opn.length (cL c.opn) ∧ Kp No W w' := by
  obtain ⟨Q, hQ⟩ : ∃ Q : Ending → World → Prop, Q = fun e w' => ∃ v, e = .returned v ∧ w'.ownsRow W.heap.size 32 10 v c.opn.length (cL c.opn) ∧ Kp No W w' := ⟨_, rfl⟩
  rw [← hQ]
  have HQ := Lib.hid hQ
  have H := Lib.hid h; have HC := Lib.hid hc
  have c2 : W.cell? ⟨b, 2, none⟩ = some (.map (some mb)) := h.1.cell 2
  have ps := listO_any b mb c W h hc
  clear h hc hQ
  go_enter Tryz.func26, Tryz.ntmps26
  go_wp2_with fail
  refine (keys_any mb W).mono ?_
  rintro e w1 ⟨rfl, rfl⟩
  go_wp2_with fail
  refine (ps W (Kp.refl _ _)).mono ?_
  rintro e w2 ⟨A, cp, rfl, a2, k2⟩
  have HA := Lib.hid a2; have HK := Lib.hid k2
  have hl4 : c.opn.length ≤ 4 := HC.out.len
  have hl2 : c.opn.length ≤ 9223372036854775807 := by omega
  obtain ⟨n, hn⟩ : ∃ n, n = c.opn.length := ⟨_, rfl⟩
  rw [← hn] at HA hl4 hl2 ⊢
  have HN := Lib.hid hn
  clear ps a2 k2 c2 hn
  go_wp2
  go_loopw [15, 3] (fun i o wr => ∃ j : Nat, j ≤ n ∧ i = .int .i64 j ∧ wr.ownsRow w2.heap.size 32 10 o (c.opn.take j).length (cL (c.opn.take j)) ∧ Kp No w2 wr) (fun i _ _ => n - (Go.RowKit.intOf i).toNat)
  case atStart => exact ⟨0, Nat.zero_le _, rfl, nil_own _ _ _ _, Kp.refl _ _⟩
  case round =>
    obtain ⟨j, hj, rfl, ho, hk⟩ := hrel
    have HO := Lib.hid ho; have HKr := Lib.hid hk
    clear ho hk
    have y2 : wr.cell? ⟨b, 2, none⟩ = some (.map (some mb)) := (H.out.no (HK.out.trans HKr.out)).1.cell 2
    have HM := Lib.hid (H.out.no (HK.out.trans HKr.out)).2
    by_cases hlt : j < n
    · have hk0 : (0 : Int) ≤ (j : Int) := by omega
      have hk1 : (j : Int) < (n : Int) := by omega
      have hlt2 : j < c.opn.length := by have := HN.out; omega
      obtain ⟨g, o, c', e1, hr⟩ := (HA.out.no HKr.out).at_ (show 0 < (c.opn.map Cll.seq).length by rw [List.length_map]; omega)
      injection e1 with e1 e2 e3
      subst e1
      clear e2 e3
      obtain ⟨x, hx⟩ : ∃ x, x = c.opn[j] := ⟨_, rfl⟩
      have x0 : wr.cell? ⟨g, o + j, none⟩ = some (.int .i64 x.seq) := hr j _ (by
        rw [List.getElem?_map, List.getElem?_eq_getElem hlt2, hx]; rfl)
      have HG := Lib.hid (show (getC c.opn x.seq).getD {} = x by rw [getC_of HC.out.ris (by rw [hx]; exact List.getElem_mem hlt2)]; rfl)
      have HWF := Lib.hid (show (Lit.int .i64 x.seq).wf = true by
        have := HC.out.num x (by rw [hx]; exact List.getElem_mem hlt2)
        have := HC.out.next
        simp [Lit.wf, IntKind.min, IntKind.max, IntKind.signed, IntKind.bits]; omega)
      have HSN := Lib.hid (show c.opn.take (j + 1) = c.opn.take j ++ [x] by rw [hx]; exact List.take_succ_eq_append_getElem hlt2)
      obtain ⟨m, hm⟩ : ∃ m, m = c.opn.take j := ⟨_, rfl⟩
      have hml : m.length ≤ j := by rw [hm, List.length_take]; omega
      rw [← hm] at HO HSN
      clear hlt hr hx hm hlt2
      obtain ⟨X, hX⟩ : ∃ X, X = cC x := ⟨_, rfl⟩
      have HVX := Lib.hid (show vC x = .agg X.toArray by rw [hX]; rfl)
      have HTX := Lib.hid (show Ten X by rw [hX]; exact Ten.of _)
      have HXC := Lib.hid (show cL [x] = X by rw [hX]; simp [cL])
      have HXL := Lib.hid HTX.out.len
      have HXO := Lib.hid (show ∀ u ∈ X, u.oneCell' = true from fun u hu => (Array.all_eq_true_iff_forall_mem.1 HTX.out.one) u (by simpa using hu))
      generalize hs : x.seq = s at *
      clear hX hs
      obtain ⟨Ao, co, hao, _⟩ := own_len HO.out
      subst hao
      have hsz : w2.heap.size ≤ wr.heap.size := HKr.out.size
      go_wp2_with (first
        | (at_lookup; refine wp_look1 _ rfl _ _ _ rfl 3 32 intT mapT (zeroT _) mb c.opn s rfl HM.out rfl HWF.out ?_; rw [HG.out, HVX.out])
        | (with_reducible refine wpList_build1 rfl 37 _ rfl 32 _ 10 88 Tryz.underlying37 infoCl (by omega) (by omega) (.agg X.toArray) rfl X rfl HXL.out ?_)
        | (at_builtin; go_must (refine wpList_app1 _ rfl _ _ 37 rfl w2.heap.size 32 _ 10 88 Tryz.underlying37 infoCl rfl (by omega) _ m.length (cL m) rfl (HO.out.alloc _) _ _ X rfl (Bk.new' rfl rfl) HXL.out HXO.out (by omega) (by omega) (by simp; omega) ?_); intro g9 c9 w9 hown9 hk9 hat9))
      have HO5 := Lib.hid hown9; have HK5 := Lib.hid hk9
      clear hown9 hk9 hat9
      go_roundw
      case rel =>
        refine ⟨j + 1, by omega, by go_num, ?_, (HKr.out.alloc _).then_ HK5.out fun i hi e => by have := (HO.out.lt i e).1; omega⟩
        rw [HSN.out, cL_append, List.length_append, HXC.out]
        exact HO5.out
      case measure => simp [Go.RowKit.intOf]; omega
    · have hk1 : ¬ (j : Int) < (n : Int) := by omega
      have hjl : j = c.opn.length := by have := HN.out; omega
      rw [hjl, List.take_length] at HO
      have HQF := Lib.hid (show Q (.returned u3) wr by
        rw [HQ.out]
        exact ⟨_, rfl, own_mono HO.out HK.out.size, HK.out.trans HKr.out⟩)
      clear hlt hjl
      go_wp2
      exact HQF.out
end Go.Proofs.YtkiaclldjofdoaaGreat
