/- Several texts of this claim in one. No condition beyond what each theorem states. -/
import Derived.Test.YtkiaclldjofdoaaGreatH03
import Derived.Test.YtkiaclldjofdoaaGreatH04
import Derived.Test.YtkiaclldjofdoaaGreatH05
import Derived.Test.YtkiaclldjofdoaaGreatH02
import Derived.ProofKit
import Derived.PlainAid
import Derived.WideShapes
import Derived.OpenShut
import Derived.ChangeOld
import Derived.SizedLaws
import Derived.Deep.Fields
import Derived.Deep.Slices
import Derived.ChangeArms
/- Nil calls, by contract. No condition beyond what each theorem states. -/
namespace Go.Proofs.YtkiaclldjofdoaaGreat
open Go Go.RowKit Go.Maps Go.PlainAid

theorem low_nil14 (W : World) : Calls Tryz.prog 22 #[.pointer none] W fun e w' => e = .returned (.int .i64 0) ∧ W = w' := by
  go_enter Tryz.func22, Tryz.ntmps22
  go_wp2
  go_ret
  exact ⟨rfl, rfl⟩
theorem boot_nil (W : World) : Calls Tryz.prog 24 #[.pointer none] W fun e w' => e = .returned (.int .i64 0) ∧ W = w' := by
  go_enter Tryz.func24, Tryz.ntmps24
  go_wp2
  go_ret
  exact ⟨rfl, rfl⟩
theorem list_nil (W : World) : Calls Tryz.prog 26 #[.pointer none] W fun e w' => e = .returned (.slice none 0 0) ∧ W = w' := by
  go_enter Tryz.func26, Tryz.ntmps26
  go_wp2
  go_ret
  exact ⟨rfl, rfl⟩
theorem open_nil (now : Int) (x : Cll) (W : World) : Calls Tryz.prog 9 #[.pointer none, .int .i64 now, vC x] W fun e w' => e = .returned (.tuple #[.int .i64 0, .int .i64 1]) ∧ Kp No W w' := by
  obtain ⟨C, hC⟩ : ∃ C, C = cC x := ⟨_, rfl⟩
  have hv : vC x = .agg C.toArray := by rw [hC]; rfl
  rw [hv]
  clear hv hC
  have HK := Lib.hid ((Kp.refl No W).alloc (.cells C.toArray 32))
  go_enter Tryz.func9, Tryz.ntmps9
  go_wp2
  go_ret2
  exact ⟨rfl, HK.out⟩
set_option maxRecDepth 100000 in
set_option maxHeartbeats 1000000 in
theorem get_nil (s : Int) (W : World) : Calls Tryz.prog 13 #[.pointer none, .int .i64 s] W fun e w' => e = .returned (.tuple #[vC {}, .bool false]) ∧ Kp No W w' := by
  have HB := Lib.hid (Bk.new W 32 (cC {}))
  have HK := Lib.hid ((Kp.refl No W).alloc (.cells (cC {}).toArray 32))
  go_enter Tryz.func13, Tryz.ntmps13
  go_wp2
  exact bodyPost_ret (res_ct rfl _ _ rfl HB.out.all_ Tryz.underlying32 rfl (Ten.of {}).infoL) rfl ⟨rfl, HK.out⟩
set_option maxRecDepth 100000 in
set_option maxHeartbeats 1000000 in
theorem close_nil (s : Int) (W : World) : Calls Tryz.prog 11 #[.pointer none, .int .i64 s] W fun e w' => e = .returned (.tuple #[vC {}, .bool false]) ∧ Kp No W w' := by
  obtain ⟨C, hC⟩ : ∃ C, C = cC {} := ⟨_, rfl⟩
  have HTC := Lib.hid (show Ten C by rw [hC]; exact Ten.of _)
  have HMC := Lib.hid HTC.out.info; have HOC := Lib.hid HTC.out.one; have HLC := Lib.hid HTC.out.infoL
  have hv : vC {} = .agg C.toArray := by rw [hC]; rfl
  obtain ⟨w1, hw1⟩ : ∃ w1, w1 = W.alloc (.cells #[.int .i64 0, .int .i64 0, .int .i64 0, .string ⟨#[]⟩, .int .i64 0, .int .i64 0, .int .i64 0, .bool false, .int .i64 0, .int .i64 0] 32) := ⟨_, rfl⟩
  have HK1 := Lib.hid (show Kp No W w1 by rw [hw1]; exact (Kp.refl No W).alloc _)
  have HZ1 := Lib.hid (show Bk w1 W.heap.size 32 (cC {}) by rw [hw1]; exact Bk.new' rfl rfl)
  have HW1 := Lib.hid hw1
  have pg := get_nil s w1
  rw [hv] at pg ⊢
  clear hw1 hC hv
  go_enter Tryz.func11, Tryz.ntmps11
  go_upto_region 1 with (fail)
  rw [← HW1.out]
  clear HW1
  go_wp2_with fail
  refine pg.mono ?_
  rintro e w3 ⟨rfl, k3⟩
  have HZ3 := Lib.hid (HZ1.out.no k3)
  have HK3 := Lib.hid (HK1.out.trans k3)
  clear pg k3
  have HTHx := Lib.hid (show (w3.alloc (.cells (cC {}).toArray 32)).there w3.heap.size 0 C.toArray.size from (Bk.new w3 _ _).thereC rfl HTC.out)
  have HB4 := Lib.hid (show Bk ((w3.alloc (.cells (cC {}).toArray 32)).setCells w3.heap.size 0 C) w3.heap.size 32 C from (Bk.new w3 _ (cC {})).put HTC.out.len)
  have k4 := Lib.hid (show Kp No w3 ((w3.alloc (.cells (cC {}).toArray 32)).setCells w3.heap.size 0 C) from ((Kp.refl No w3).alloc _).sets C 0 (.inr (Nat.le_refl _)))
  have e0 : (cC {}).toArray = #[.int .i64 0, .int .i64 0, .int .i64 0, .string ⟨#[]⟩, .int .i64 0, .int .i64 0, .int .i64 0, .bool false, .int .i64 0, .int .i64 0] := rfl
  rw [e0] at HTHx HB4 k4
  clear e0
  go_upto_region 2 with (with_reducible refine wpList_store_mid rfl _ _ _ rfl w3.heap.size 0 C.toArray rfl rfl HTHx.out HMC.out HOC.out ?_)
  clear HTHx
  generalize World.setCells _ w3.heap.size 0 C = w4 at *
  have HX1 := Lib.hid ((HZ3.out.no k4.out).thereC rfl HTC.out)
  have HX2 := Lib.hid HB4.out.all_
  have HX3 := Lib.hid (show Bk (w4.setCells W.heap.size 0 C) W.heap.size 32 C from (HZ3.out.no k4.out).put (by rw [HTC.out.len]; rfl))
  have HX4 := Lib.hid (show Kp No W (w4.setCells W.heap.size 0 C) from (HK3.out.trans k4.out).sets C 0 (.inr (Nat.le_refl _)))
  clear k4
  go_wp2_with (first
    | (with_reducible refine wpList_load_mid rfl _ _ rfl w3.heap.size 0 rfl C _ HX2.out Tryz.underlying32 rfl HLC.out ?_)
    | (with_reducible refine wpList_store_mid rfl _ _ _ rfl W.heap.size 0 C.toArray rfl rfl HX1.out HMC.out HOC.out ?_))
  exact bodyPost_ret (res_ct rfl _ _ rfl HX3.out.all_ Tryz.underlying32 rfl HLC.out) rfl ⟨rfl, HX4.out⟩
set_option maxRecDepth 100000 in
set_option maxHeartbeats 1000000 in
theorem again_nil (s : Int) (W : World) : Calls Tryz.prog 16 #[.pointer none, .int .i64 s] W fun e w' => e = .returned (.tuple #[vC {}, .bool false]) ∧ Kp No W w' := by
  obtain ⟨C, hC⟩ : ∃ C, C = cC {} := ⟨_, rfl⟩
  have HTC := Lib.hid (show Ten C by rw [hC]; exact Ten.of _)
  have HMC := Lib.hid HTC.out.info; have HOC := Lib.hid HTC.out.one; have HLC := Lib.hid HTC.out.infoL
  have hv : vC {} = .agg C.toArray := by rw [hC]; rfl
  obtain ⟨w1, hw1⟩ : ∃ w1, w1 = W.alloc (.cells #[.int .i64 0, .int .i64 0, .int .i64 0, .string ⟨#[]⟩, .int .i64 0, .int .i64 0, .int .i64 0, .bool false, .int .i64 0, .int .i64 0] 32) := ⟨_, rfl⟩
  have HK1 := Lib.hid (show Kp No W w1 by rw [hw1]; exact (Kp.refl No W).alloc _)
  have HZ1 := Lib.hid (show Bk w1 W.heap.size 32 (cC {}) by rw [hw1]; exact Bk.new' rfl rfl)
  have HW1 := Lib.hid hw1
  have pg := get_nil s w1
  rw [hv] at pg ⊢
  clear hw1 hC hv
  go_enter Tryz.func16, Tryz.ntmps16
  go_upto_region 1 with (fail)
  rw [← HW1.out]
  clear HW1
  go_wp2_with fail
  refine pg.mono ?_
  rintro e w3 ⟨rfl, k3⟩
  have HZ3 := Lib.hid (HZ1.out.no k3)
  have HK3 := Lib.hid (HK1.out.trans k3)
  clear pg k3
  have HTHx := Lib.hid (show (w3.alloc (.cells (cC {}).toArray 32)).there w3.heap.size 0 C.toArray.size from (Bk.new w3 _ _).thereC rfl HTC.out)
  have HB4 := Lib.hid (show Bk ((w3.alloc (.cells (cC {}).toArray 32)).setCells w3.heap.size 0 C) w3.heap.size 32 C from (Bk.new w3 _ (cC {})).put HTC.out.len)
  have k4 := Lib.hid (show Kp No w3 ((w3.alloc (.cells (cC {}).toArray 32)).setCells w3.heap.size 0 C) from ((Kp.refl No w3).alloc _).sets C 0 (.inr (Nat.le_refl _)))
  have e0 : (cC {}).toArray = #[.int .i64 0, .int .i64 0, .int .i64 0, .string ⟨#[]⟩, .int .i64 0, .int .i64 0, .int .i64 0, .bool false, .int .i64 0, .int .i64 0] := rfl
  rw [e0] at HTHx HB4 k4
  clear e0
  go_upto_region 2 with (with_reducible refine wpList_store_mid rfl _ _ _ rfl w3.heap.size 0 C.toArray rfl rfl HTHx.out HMC.out HOC.out ?_)
  clear HTHx
  generalize World.setCells _ w3.heap.size 0 C = w4 at *
  have HX1 := Lib.hid ((HZ3.out.no k4.out).thereC rfl HTC.out)
  have HX2 := Lib.hid HB4.out.all_
  have HX3 := Lib.hid (show Bk (w4.setCells W.heap.size 0 C) W.heap.size 32 C from (HZ3.out.no k4.out).put (by rw [HTC.out.len]; rfl))
  have HX4 := Lib.hid (show Kp No W (w4.setCells W.heap.size 0 C) from (HK3.out.trans k4.out).sets C 0 (.inr (Nat.le_refl _)))
  clear k4
  go_wp2_with (first
    | (with_reducible refine wpList_load_mid rfl _ _ rfl w3.heap.size 0 rfl C _ HX2.out Tryz.underlying32 rfl HLC.out ?_)
    | (with_reducible refine wpList_store_mid rfl _ _ _ rfl W.heap.size 0 C.toArray rfl rfl HX1.out HMC.out HOC.out ?_))
  exact bodyPost_ret (res_ct rfl _ _ rfl HX3.out.all_ Tryz.underlying32 rfl HLC.out) rfl ⟨rfl, HX4.out⟩

set_option maxRecDepth 100000 in
set_option maxHeartbeats 2000000 in
theorem ask_nil (f s : Int) (W : World) : Calls Tryz.prog 18 #[.pointer none, .int .i64 f, .int .i64 s] W fun e w' => e = .returned (.tuple #[.agg m0.toArray, .bool false]) ∧ Kp No W w' := by
  obtain ⟨C, hC⟩ : ∃ C, C = cC {} := ⟨_, rfl⟩
  have HTC := Lib.hid (show Ten C by rw [hC]; exact Ten.of _)
  have HMC := Lib.hid HTC.out.info; have HOC := Lib.hid HTC.out.one; have HLC := Lib.hid HTC.out.infoL
  obtain ⟨D, hD⟩ : ∃ D, D = m0 := ⟨_, rfl⟩
  have HTD := Lib.hid (show Sxt D by rw [hD]; exact Sxt.of _)
  have HMD := Lib.hid HTD.out.info; have HOD := Lib.hid HTD.out.one; have HLD := Lib.hid HTD.out.infoL
  have HAZ := Lib.hid (show (.agg #[.int .i64 0, .int .i64 0, .int .i64 0, .int .i64 0, .int .i64 0, .int .i64 0, .int .i64 0, .string ⟨#[]⟩, .int .i64 0, .int .i64 0, .int .i64 0, .bool false, .int .i64 0, .slice none 0 0, .int .i64 0, .int .i64 0] : Value) = .agg D.toArray by rw [hD]; rfl)
  have hv : vC {} = .agg C.toArray := by rw [hC]; rfl
  obtain ⟨w1, hw1⟩ : ∃ w1, w1 = W.alloc (.cells #[.int .i64 0, .int .i64 0, .int .i64 0, .int .i64 0, .int .i64 0, .int .i64 0, .int .i64 0, .string ⟨#[]⟩, .int .i64 0, .int .i64 0, .int .i64 0, .bool false, .int .i64 0, .slice none 0 0, .int .i64 0, .int .i64 0] 50) := ⟨_, rfl⟩
  have HK1 := Lib.hid (show Kp No W w1 by rw [hw1]; exact (Kp.refl No W).alloc _)
  have HZ1 := Lib.hid (show Bk w1 W.heap.size 50 m0 by rw [hw1]; exact Bk.new' rfl rfl)
  have HW1 := Lib.hid hw1
  have pg := get_nil s w1
  rw [hv] at pg
  rw [← hD]
  clear hw1 hC hv hD
  go_enter Tryz.func18, Tryz.ntmps18
  go_upto_region 1 with (fail)
  rw [← HW1.out]
  clear HW1
  go_wp2_with fail
  refine pg.mono ?_
  rintro e w3 ⟨rfl, k3⟩
  have HZ3 := Lib.hid (HZ1.out.no k3)
  have HK3 := Lib.hid (HK1.out.trans k3)
  clear pg k3
  have HTHx := Lib.hid (show (w3.alloc (.cells (cC {}).toArray 32)).there w3.heap.size 0 C.toArray.size from (Bk.new w3 _ _).thereC rfl HTC.out)
  have HB4 := Lib.hid (show Bk ((w3.alloc (.cells (cC {}).toArray 32)).setCells w3.heap.size 0 C) w3.heap.size 32 C from (Bk.new w3 _ (cC {})).put HTC.out.len)
  have k4 := Lib.hid (show Kp No w3 ((w3.alloc (.cells (cC {}).toArray 32)).setCells w3.heap.size 0 C) from ((Kp.refl No w3).alloc _).sets C 0 (.inr (Nat.le_refl _)))
  have e0 : (cC {}).toArray = #[.int .i64 0, .int .i64 0, .int .i64 0, .string ⟨#[]⟩, .int .i64 0, .int .i64 0, .int .i64 0, .bool false, .int .i64 0, .int .i64 0] := rfl
  rw [e0] at HTHx HB4 k4
  clear e0
  go_upto_region 2 with (with_reducible refine wpList_store_mid rfl _ _ _ rfl w3.heap.size 0 C.toArray rfl rfl HTHx.out HMC.out HOC.out ?_)
  clear HTHx
  generalize World.setCells _ w3.heap.size 0 C = w4 at *
  have HX1 := Lib.hid ((HZ3.out.no k4.out).thereM rfl HTD.out)
  have HX3 := Lib.hid (show Bk (w4.setCells W.heap.size 0 D) W.heap.size 50 D from (HZ3.out.no k4.out).put (by rw [HTD.out.len]; rfl))
  have HX4 := Lib.hid (show Kp No W (w4.setCells W.heap.size 0 D) from (HK3.out.trans k4.out).sets D 0 (.inr (Nat.le_refl _)))
  clear k4
  go_wp2_with (refine wpList_store_mid rfl _ _ _ rfl W.heap.size 0 D.toArray rfl HAZ.out HX1.out HMD.out HOD.out ?_)
  exact bodyPost_ret (res_ct rfl _ _ rfl HX3.out.all_ Tryz.underlying50 rfl HLD.out) rfl ⟨rfl, HX4.out⟩
end Go.Proofs.YtkiaclldjofdoaaGreat

/- Calls and operations that came in. No condition beyond what each theorem states. -/
namespace Go.Proofs.YtkiaclldjofdoaaGreat
open Go Go.RowKit Go.PlainAid Go.ChangeShapes Go.WideShapes Go.ChangeAt Go.Deep

section
variable {H : Type} {enc : TypeId × Value → H} {P : Program}
/-- the parts of a struct, each a piece of its cells -/
theorem open_parts {w : World} {base fuel : Nat} {spare : Nat → Bool} {held : Bool} {t : TypeId} {fs : Array Field} {cs : List Value} {x : DataW H × List MemPlace} (hs : P.underlying t = some (.struct fs))
    (h : DataW.trod enc P w base spare held fuel t cs = some x) :
    ∃ (n : Nat) (xs : List (DataW H × List MemPlace)), x.1 = .agg (xs.map (·.1)) ∧ cs.length = P.cellsOf t ∧ ∀ (j : Nat) (f : Field), fs[j]? = some f → ∃ y, (xs.map (·.1))[j]? = some y.1 ∧ DataW.trod enc P w base spare held n f.type ((cs.drop f.offset).take (P.cellsOf f.type)) = some y := by
  obtain ⟨xs, n, _, rfl, hl, hlen, hg⟩ := DataW.trod_struct hs h
  refine ⟨n, xs, rfl, hl, fun j f hj => ?_⟩
  have hjl : j < fs.size := (Array.getElem?_eq_some_iff.1 hj).1
  have hys : xs[j]? = some (xs[j]'(by omega)) := List.getElem?_eq_getElem (by omega)
  exact ⟨xs[j]'(by omega), by rw [List.getElem?_map, hys]; rfl, (hg j f hj).trans hys⟩
end
theorem addr_noneG {w : World} {a : Addr} {v : Value} (h : w.cell? (a.add 0) = some v) : ∃ b o, a = ⟨b, o, none⟩ := by
  obtain ⟨b, o, s⟩ := a
  cases s with
  | none => exact ⟨b, o, rfl⟩
  | some s =>
    exfalso
    simp only [World.cell?, Addr.add, if_true] at h
    split at h <;> simp_all
theorem mapM_someG {α β : Type} {f : α → Option β} : ∀ {l : List α} {r : List β}, l.mapM f = some r → r.length = l.length ∧ ∀ i (h : i < l.length), f l[i] = r[i]?
  | [], r, h => by simp at h; subst h; exact ⟨rfl, by intro i hi; simp at hi⟩
  | a :: t, r, h => by
    rw [List.mapM_cons] at h
    cases ha : f a with
    | none => simp [ha] at h
    | some b =>
      cases ht : t.mapM f with
      | none => simp [ha, ht] at h
      | some bs =>
        simp [ha, ht] at h
        subst h
        obtain ⟨h1, h2⟩ := mapM_someG ht
        refine ⟨by simp [h1], fun i hi => ?_⟩
        rcases i with _ | i
        · simpa using ha
        · simpa using h2 i (by simpa using hi)
theorem weightsAll_memG {H : Type} {P : Program} {e : TypeId} : ∀ {l : List (DataW H)} {d : DataW H}, d ∈ l → ∀ n ∈ d.weights P e, n ∈ DataW.weightsAll P e l
  | _ :: _, d, hd, n, hn => by
    simp only [DataW.weightsAll, List.mem_append]
    rcases List.mem_cons.1 hd with rfl | h
    · exact Or.inl hn
    · exact Or.inr (weightsAll_memG h n hn)
section
variable {H : Type} {enc : TypeId × Value → H} {P : Program}
/-- a list of structs that came in: each element's cells, by a law that opens one -/
theorem open_rows {α : Type} {W : World} {t e : TypeId} {c : Value} {n : Nat} {y : DataW H × List MemPlace} {size bytes : Nat} {cells : α → List Value} {Good : α → Prop} (ht : P.underlying t = some (.slice e)) (ce : P.cellsOf e = size) (be : P.bytesOf e = bytes)
    (hsz : 0 < size) (hln : ∀ x, (cells x).length = size) (dflt : α)
    (hone : ∀ (m : Nat) (cs : List Value) (x : DataW H × List MemPlace), DataW.trod enc P W 0 (fun _ => true) true m e cs = some x → (∀ n ∈ x.1.weights P e, n ≤ reachBytes) → ∃ g, cs = cells g ∧ Good g)
    (hf : DataW.trod enc P W 0 (fun _ => true) true n t [c] = some y) (hz : ∀ n ∈ y.1.weights P t, n ≤ reachBytes) :
    ∃ (l : List α) (A : Option Addr) (cap : Nat), c = .slice A l.length cap ∧ l.length ≤ cap ∧ l.length * bytes ≤ reachBytes ∧ (∀ g ∈ l, Good g) ∧
      (l ≠ [] → ∃ g o, A = some ⟨g, o, none⟩ ∧ g < W.heap.size ∧ ∀ k (h : k < l.length), W.rangeAt g (o + k * size) (cells l[k])) := by
  rcases DataW.trod_slice ht hf with ⟨hcs, hx⟩ | ⟨a, len, cap, elems, rest, m, _, hcs, hx, _, hl, hm, hlen, hel, hsp, _⟩
  · injection hcs with hcs _
    subst hcs
    exact ⟨[], none, 0, rfl, Nat.le_refl _, by simp, (fun g hg => by cases hg), fun h => absurd rfl h⟩
  · injection hcs with hcs _
    subst hcs
    subst hx
    have hrl := (hsp rfl).1
    have hw : ∀ (i : Nat) x, i < len → elems[i]? = some x → ∀ n ∈ x.1.weights P e, n ≤ reachBytes := fun i x _ hx n hn => hz n (by
      have hmem : x.1 ∈ elems.map (·.1) := List.mem_map_of_mem (List.mem_of_getElem? hx)
      simp only [DataW.weights, ht]
      exact List.mem_cons_of_mem _ (List.mem_append_left _ (weightsAll_memG hmem n hn)))
    have hone2 : ∀ i, i < len → ∃ g, Good g ∧ ∀ j v, (cells g)[j]? = some v → W.cell? ((a.add (i * size)).add j) = some v := fun i hi => by
      have h1 := hel i hi
      rw [List.getElem?_eq_getElem (by omega : i < elems.length), ce] at h1
      cases hc : W.cells? 0 (a.add (i * size)) size with
      | none => rw [hc] at h1; simp at h1
      | some cs' =>
        rw [hc] at h1
        obtain ⟨g, hg, hG⟩ := hone m cs' _ h1 (hw i _ hi (List.getElem?_eq_getElem (by omega)))
        subst hg
        unfold World.cells? at hc
        rw [if_pos (Nat.zero_le _)] at hc
        obtain ⟨hl4, hc4⟩ := mapM_someG hc
        simp only [List.length_range] at hl4 hc4
        refine ⟨g, hG, fun j v hj => ?_⟩
        have hj4 : j < size := by have := (List.getElem?_eq_some_iff.1 hj).1; rw [hln] at this; exact this
        have := hc4 j hj4
        rw [List.getElem_range] at this
        rw [this]; exact hj
    obtain ⟨f, hf'⟩ : ∃ f : Nat → α, ∀ i, i < len → Good (f i) ∧ ∀ j v, (cells (f i))[j]? = some v → W.cell? ((a.add (i * size)).add j) = some v :=
      ⟨fun i => if h : i < len then (hone2 i h).choose else dflt, fun i hi => by
        simp only [dif_pos hi]
        exact (hone2 i hi).choose_spec⟩
    refine ⟨(List.range len).map f, some a, cap, by simp, by simpa using hl, ?_, ?_, fun hne => ?_⟩
    · simp only [List.length_map, List.length_range]
      have := hz ((len + (cap - len)) * P.bytesOf e) (by simp [DataW.weights, ht, hlen, hrl])
      rw [be] at this
      exact Nat.le_trans (Nat.mul_le_mul_right _ (by omega)) this
    · intro g hg
      obtain ⟨i, hi, rfl⟩ := List.mem_map.1 hg
      exact (hf' i (List.mem_range.1 hi)).1
    · have hlen : 0 < len := by
        rcases Nat.eq_zero_or_pos len with h0 | h0
        · subst h0; simp at hne
        · exact h0
      have hv0 : (cells (f 0))[0]? = some ((cells (f 0))[0]'(by rw [hln]; exact hsz)) := List.getElem?_eq_getElem _
      have h00 := (hf' 0 hlen).2 0 _ hv0
      rw [add_add, Nat.zero_mul] at h00
      obtain ⟨b, o, rfl⟩ := addr_noneG h00
      refine ⟨b, o, rfl, ?_, fun k hk j v hj => ?_⟩
      · have := World.block_lt_of_cell? W _ h00
        rwa [Addr.add_mid] at this
      · have hk' : k < len := by simpa using hk
        simp only [List.getElem_map, List.getElem_range] at hj
        have := (hf' k hk').2 j v hj
        rw [add_add, Addr.add_mid] at this
        rw [Nat.add_assoc]; exact this
end

theorem list10 {α : Type} {cs : List α} (h : cs.length = 10) : ∃ a0 a1 a2 a3 a4 a5 a6 a7 a8 a9, cs = [a0, a1, a2, a3, a4, a5, a6, a7, a8, a9] := by
  match cs, h with
  | [a0, a1, a2, a3, a4, a5, a6, a7, a8, a9], _ => exact ⟨a0, a1, a2, a3, a4, a5, a6, a7, a8, a9, rfl⟩
theorem list13 {α : Type} {cs : List α} (h : cs.length = 13) : ∃ o0 o1 o2 a0 a1 a2 a3 a4 a5 a6 a7 a8 a9, cs = [o0, o1, o2, a0, a1, a2, a3, a4, a5, a6, a7, a8, a9] := by
  match cs, h with
  | [o0, o1, o2, a0, a1, a2, a3, a4, a5, a6, a7, a8, a9], _ => exact ⟨o0, o1, o2, a0, a1, a2, a3, a4, a5, a6, a7, a8, a9, rfl⟩
set_option maxRecDepth 100000 in
set_option maxHeartbeats 2000000 in
/-- a call's cells, opened -/
theorem open_call {H : Type} {enc : TypeId × Value → H} {W : World} {n : Nat} {cs : List Value} {x : DataW H × List MemPlace} (h : DataW.trod enc Tryz.prog W 0 (fun _ => true) true n 32 cs = some x)
    (hz : ∀ n ∈ x.1.weights Tryz.prog 32, n ≤ reachBytes) : ∃ g : Cll, cs = cC g ∧ InX g := by
  obtain ⟨n, xs, hx, hl, hg⟩ := open_parts Tryz.underlying32 h
  rw [hx] at hz
  have hw : ∀ (j : Nat) t y, ([3, 3, 29, 9, 30, 3, 3, 4, 3, 3] : List TypeId)[j]? = some t → (xs.map (·.1))[j]? = some y → ∀ n ∈ y.weights Tryz.prog t, n ≤ reachBytes := fun j t y h1 h2 n hn => hz n (by
    have := DataW.weights_mem_each h1 h2 n hn
    simpa [DataW.weights, Tryz.underlying32] using this)
  obtain ⟨y0, x0, t0⟩ := hg 0 _ rfl
  obtain ⟨y1, x1, t1⟩ := hg 1 _ rfl
  obtain ⟨y2, x2, t2⟩ := hg 2 _ rfl
  obtain ⟨y3, x3, t3⟩ := hg 3 _ rfl
  obtain ⟨y4, x4, t4⟩ := hg 4 _ rfl
  obtain ⟨y5, x5, t5⟩ := hg 5 _ rfl
  obtain ⟨y6, x6, t6⟩ := hg 6 _ rfl
  obtain ⟨y7, x7, t7⟩ := hg 7 _ rfl
  obtain ⟨y8, x8, t8⟩ := hg 8 _ rfl
  obtain ⟨y9, x9, t9⟩ := hg 9 _ rfl
  clear hg hz
  obtain ⟨a0, a1, a2, a3, a4, a5, a6, a7, a8, a9, rfl⟩ := list10 (hl.trans (by kernel_rfl : Tryz.prog.cellsOf 32 = 10))
  have t0 : DataW.trod enc Tryz.prog W 0 (fun _ => true) true n 3 (([a0, a1, a2, a3, a4, a5, a6, a7, a8, a9].drop 0).take (Tryz.prog.cellsOf 3)) = some y0 := t0
  have t1 : DataW.trod enc Tryz.prog W 0 (fun _ => true) true n 3 (([a0, a1, a2, a3, a4, a5, a6, a7, a8, a9].drop 1).take (Tryz.prog.cellsOf 3)) = some y1 := t1
  have t2 : DataW.trod enc Tryz.prog W 0 (fun _ => true) true n 29 (([a0, a1, a2, a3, a4, a5, a6, a7, a8, a9].drop 2).take (Tryz.prog.cellsOf 29)) = some y2 := t2
  have t3 : DataW.trod enc Tryz.prog W 0 (fun _ => true) true n 9 (([a0, a1, a2, a3, a4, a5, a6, a7, a8, a9].drop 3).take (Tryz.prog.cellsOf 9)) = some y3 := t3
  have t4 : DataW.trod enc Tryz.prog W 0 (fun _ => true) true n 30 (([a0, a1, a2, a3, a4, a5, a6, a7, a8, a9].drop 4).take (Tryz.prog.cellsOf 30)) = some y4 := t4
  have t5 : DataW.trod enc Tryz.prog W 0 (fun _ => true) true n 3 (([a0, a1, a2, a3, a4, a5, a6, a7, a8, a9].drop 5).take (Tryz.prog.cellsOf 3)) = some y5 := t5
  have t6 : DataW.trod enc Tryz.prog W 0 (fun _ => true) true n 3 (([a0, a1, a2, a3, a4, a5, a6, a7, a8, a9].drop 6).take (Tryz.prog.cellsOf 3)) = some y6 := t6
  have t7 : DataW.trod enc Tryz.prog W 0 (fun _ => true) true n 4 (([a0, a1, a2, a3, a4, a5, a6, a7, a8, a9].drop 7).take (Tryz.prog.cellsOf 4)) = some y7 := t7
  have t8 : DataW.trod enc Tryz.prog W 0 (fun _ => true) true n 3 (([a0, a1, a2, a3, a4, a5, a6, a7, a8, a9].drop 8).take (Tryz.prog.cellsOf 3)) = some y8 := t8
  have t9 : DataW.trod enc Tryz.prog W 0 (fun _ => true) true n 3 (([a0, a1, a2, a3, a4, a5, a6, a7, a8, a9].drop 9).take (Tryz.prog.cellsOf 3)) = some y9 := t9
  simp only [show Tryz.prog.cellsOf 3 = 1 from by kernel_rfl, show Tryz.prog.cellsOf 29 = 1 from by kernel_rfl, show Tryz.prog.cellsOf 9 = 1 from by kernel_rfl, show Tryz.prog.cellsOf 30 = 1 from by kernel_rfl, show Tryz.prog.cellsOf 4 = 1 from by kernel_rfl, List.drop_succ_cons, List.drop_zero, List.take_succ_cons, List.take_zero] at t0 t1 t2 t3 t4 t5 t6 t7 t8 t9
  obtain ⟨n0, h0, _, w0⟩ := DataW.trod_int Tryz.underlying3 t0
  have b0 := bounds_i64 w0
  obtain ⟨n1, h1, _, w1⟩ := DataW.trod_int Tryz.underlying3 t1
  have b1 := bounds_i64 w1
  obtain ⟨n2, h2, _, w2⟩ := DataW.trod_int Tryz.underlying29 t2
  have b2 := bounds_i64 w2
  obtain ⟨s, h3, q3, _⟩ := DataW.trod_string Tryz.underlying9 t3
  have hpl : s.data.toList.length ≤ reachBytes := hw 3 _ _ rfl x3 _ (by rw [(Prod.mk.inj q3).1]; simp [DataW.weights])
  clear q3
  unfold reachBytes at hpl
  obtain ⟨n4, h4, _, w4⟩ := DataW.trod_int Tryz.underlying30 t4
  have b4 := bounds_i64 w4
  obtain ⟨n5, h5, _, w5⟩ := DataW.trod_int Tryz.underlying3 t5
  have b5 := bounds_i64 w5
  obtain ⟨n6, h6, _, w6⟩ := DataW.trod_int Tryz.underlying3 t6
  have b6 := bounds_i64 w6
  obtain ⟨fr, h7, _⟩ := DataW.trod_bool Tryz.underlying4 t7
  obtain ⟨n8, h8, _, w8⟩ := DataW.trod_int Tryz.underlying3 t8
  have b8 := bounds_i64 w8
  obtain ⟨n9, h9, _, w9⟩ := DataW.trod_int Tryz.underlying3 t9
  have b9 := bounds_i64 w9
  simp only [List.cons.injEq, and_true] at h0 h1 h2 h3 h4 h5 h6 h7 h8 h9
  subst h0 h1 h2 h3 h4 h5 h6 h7 h8 h9
  refine ⟨⟨n0, n1, n2, s.data.toList, n4, n5, n6, fr, n8, n9⟩, rfl, ⟨?_, by show s.data.toList.length ≤ _; omega⟩⟩
  simp only [List.mem_cons, List.not_mem_nil, or_false, forall_eq_or_imp, forall_eq]
  omega

/-- a list of calls that came in -/
theorem open_calls {H : Type} {enc : TypeId × Value → H} {W : World} {n : Nat} {c : Value} {y : DataW H × List MemPlace} (hf : DataW.trod enc Tryz.prog W 0 (fun _ => true) true n 37 [c] = some y)
    (hz : ∀ n ∈ y.1.weights Tryz.prog 37, n ≤ reachBytes) : ∃ l : List Cll, ArgC W c l ∧ l.length ≤ maxLen ∧ ∀ p ∈ l, InX p := by
  obtain ⟨l, A, cap, e, hc, hb, hg, hr⟩ := open_rows (size := 10) (bytes := 88) (cells := cC) (Good := InX) Tryz.underlying37 (by kernel_rfl) (by kernel_rfl) (by decide) (fun _ => rfl) {}
    (fun m cs x h hx => open_call h hx) hf hz
  exact ⟨l, ⟨A, cap, e, hc, hr⟩, by unfold reachBytes at hb; unfold maxLen; omega, hg⟩
/-- an operation -/
structure Opr where
  kind : Int := 0
  n : Int := 0
  from_ : Int := 0
  x : Cll := {}
def oC (o : Opr) : List Value := [.int .i64 o.kind, .int .i64 o.n, .int .i64 o.from_] ++ cC o.x
structure InO (o : Opr) : Prop where
  kind : (Lit.int .i64 o.kind).wf = true
  n : (Lit.int .i64 o.n).wf = true
  from_ : (Lit.int .i64 o.from_).wf = true
  x : InX o.x
set_option maxRecDepth 100000 in
set_option maxHeartbeats 2000000 in
theorem open_op {H : Type} {enc : TypeId × Value → H} {W : World} {n : Nat} {cs : List Value} {x : DataW H × List MemPlace} (h : DataW.trod enc Tryz.prog W 0 (fun _ => true) true n 43 cs = some x)
    (hz : ∀ n ∈ x.1.weights Tryz.prog 43, n ≤ reachBytes) : ∃ g : Opr, cs = oC g ∧ InO g := by
  obtain ⟨n, xs, hx, hl, hg⟩ := open_parts Tryz.underlying43 h
  rw [hx] at hz
  have hw : ∀ (j : Nat) t y, ([3, 3, 3, 32] : List TypeId)[j]? = some t → (xs.map (·.1))[j]? = some y → ∀ n ∈ y.weights Tryz.prog t, n ≤ reachBytes := fun j t y h1 h2 n hn => hz n (by
    have := DataW.weights_mem_each h1 h2 n hn
    simpa [DataW.weights, Tryz.underlying43] using this)
  obtain ⟨y0, x0, t0⟩ := hg 0 _ rfl
  obtain ⟨y1, x1, t1⟩ := hg 1 _ rfl
  obtain ⟨y2, x2, t2⟩ := hg 2 _ rfl
  obtain ⟨y3, x3, t3⟩ := hg 3 _ rfl
  clear hg hz
  obtain ⟨o0, o1, o2, a0, a1, a2, a3, a4, a5, a6, a7, a8, a9, rfl⟩ := list13 (hl.trans (by kernel_rfl : Tryz.prog.cellsOf 43 = 13))
  have t0 : DataW.trod enc Tryz.prog W 0 (fun _ => true) true n 3 (([o0, o1, o2, a0, a1, a2, a3, a4, a5, a6, a7, a8, a9].drop 0).take (Tryz.prog.cellsOf 3)) = some y0 := t0
  have t1 : DataW.trod enc Tryz.prog W 0 (fun _ => true) true n 3 (([o0, o1, o2, a0, a1, a2, a3, a4, a5, a6, a7, a8, a9].drop 1).take (Tryz.prog.cellsOf 3)) = some y1 := t1
  have t2 : DataW.trod enc Tryz.prog W 0 (fun _ => true) true n 3 (([o0, o1, o2, a0, a1, a2, a3, a4, a5, a6, a7, a8, a9].drop 2).take (Tryz.prog.cellsOf 3)) = some y2 := t2
  have t3 : DataW.trod enc Tryz.prog W 0 (fun _ => true) true n 32 (([o0, o1, o2, a0, a1, a2, a3, a4, a5, a6, a7, a8, a9].drop 3).take (Tryz.prog.cellsOf 32)) = some y3 := t3
  simp only [show Tryz.prog.cellsOf 3 = 1 from by kernel_rfl, show Tryz.prog.cellsOf 32 = 10 from by kernel_rfl, List.drop_succ_cons, List.drop_zero, List.take_succ_cons, List.take_zero] at t0 t1 t2 t3
  obtain ⟨n0, h0, _, w0⟩ := DataW.trod_int Tryz.underlying3 t0
  obtain ⟨n1, h1, _, w1⟩ := DataW.trod_int Tryz.underlying3 t1
  obtain ⟨n2, h2, _, w2⟩ := DataW.trod_int Tryz.underlying3 t2
  obtain ⟨g, hg, hG⟩ := open_call t3 (hw 3 _ _ rfl x3)
  simp only [List.cons.injEq, and_true] at h0 h1 h2
  subst h0 h1 h2
  exact ⟨⟨n0, n1, n2, g⟩, by unfold oC; rw [← hg]; rfl, w0, w1, w2, hG⟩
/-- a list of operations in memory -/
def ArgO (w : World) (v : Value) (l : List Opr) : Prop := ∃ A c, v = .slice A l.length c ∧ l.length ≤ c ∧ (l ≠ [] → ∃ g o, A = some ⟨g, o, none⟩ ∧ g < w.heap.size ∧ ∀ k (h : k < l.length), w.rangeAt g (o + k * 13) (oC l[k]))
theorem ArgO.no {w w' : World} {v : Value} {l : List Opr} (h : ArgO w v l) (hk : Kp No w w') : ArgO w' v l := by
  obtain ⟨A, c, e, hc, h⟩ := h
  refine ⟨A, c, e, hc, fun hne => ?_⟩
  obtain ⟨g, o, e1, h1, h2⟩ := h hne
  exact ⟨g, o, e1, Nat.lt_of_lt_of_le h1 hk.size, fun k hk' => range_kp (h2 k hk') hk id⟩
theorem ArgO.at_ {w : World} {A : Option Addr} {n c : Nat} {l : List Opr} (h : ArgO w (.slice A n c) l) {k : Nat} (hk : k < l.length) : ∃ g o, A = some ⟨g, o, none⟩ ∧ g < w.heap.size ∧ w.rangeAt g (o + k * 13) (oC l[k]) := by
  obtain ⟨A', c', e, _, h⟩ := h
  obtain ⟨g, o, e1, h1, h2⟩ := h (fun e => by subst e; exact Nat.not_lt_zero _ hk)
  injection e with e2 _ _
  exact ⟨g, o, e2.trans e1, h1, h2 k hk⟩
theorem open_ops {H : Type} {enc : TypeId × Value → H} {W : World} {n : Nat} {c : Value} {y : DataW H × List MemPlace} (hf : DataW.trod enc Tryz.prog W 0 (fun _ => true) true n 36 [c] = some y)
    (hz : ∀ n ∈ y.1.weights Tryz.prog 36, n ≤ reachBytes) : ∃ l : List Opr, ArgO W c l ∧ l.length ≤ maxLen ∧ ∀ p ∈ l, InO p := by
  obtain ⟨l, A, cap, e, hc, hb, hg, hr⟩ := open_rows (size := 13) (bytes := 112) (cells := oC) (Good := InO) Tryz.underlying36 (by kernel_rfl) (by kernel_rfl) (by decide) (fun _ => rfl) {}
    (fun m cs x h hx => open_op h hx) hf hz
  exact ⟨l, ⟨A, cap, e, hc, hr⟩, by unfold reachBytes at hb; unfold maxLen; omega, hg⟩
set_option maxRecDepth 100000 in
theorem open_callsA {H : Type} {enc : TypeId × Value → H} {W : World} {b0 : Nat} {v : Value} {d : DataW H} {ps : List MemPlace} (hv : Value.okWide Tryz.prog W .any b0 37 v) (h : DataW.Trod enc Tryz.prog W 0 (fun _ => true) true 37 v d ps)
    (hz : ∀ n ∈ d.weights Tryz.prog 37, n ≤ reachBytes) : ∃ l : List Cll, ArgC W v l ∧ l.length ≤ maxLen ∧ ∀ p ∈ l, InX p := by
  obtain ⟨a, len, cap, rfl⟩ := okWide_slice Tryz.underlying37 hv
  obtain ⟨fuel, hf⟩ := h
  have hf : DataW.trod enc Tryz.prog W 0 (fun _ => true) true fuel 37 [.slice a len cap] = some (d, ps) := hf
  exact open_calls hf hz
set_option maxRecDepth 100000 in
theorem open_opsA {H : Type} {enc : TypeId × Value → H} {W : World} {b0 : Nat} {v : Value} {d : DataW H} {ps : List MemPlace} (hv : Value.okWide Tryz.prog W .any b0 36 v) (h : DataW.Trod enc Tryz.prog W 0 (fun _ => true) true 36 v d ps)
    (hz : ∀ n ∈ d.weights Tryz.prog 36, n ≤ reachBytes) : ∃ l : List Opr, ArgO W v l ∧ l.length ≤ maxLen ∧ ∀ p ∈ l, InO p := by
  obtain ⟨a, len, cap, rfl⟩ := okWide_slice Tryz.underlying36 hv
  obtain ⟨fuel, hf⟩ := h
  have hf : DataW.trod enc Tryz.prog W 0 (fun _ => true) true fuel 36 [.slice a len cap] = some (d, ps) := hf
  exact open_ops hf hz
end Go.Proofs.YtkiaclldjofdoaaGreat
