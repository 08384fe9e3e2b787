/- Several texts of this claim in one. No condition beyond what each theorem states. -/
import Derived.Test.YtifdceofglocdaaB11
import Derived.Laws.IdiomCopy
import Derived.Lib.Overlaps
import Derived.Lib.AppendZeros
import Derived.Deep.RegionLaw
import Derived.Laws.Externs
import Derived.Deep.DeepMust
/- A grant put in among others: slices.Insert by contract. No condition beyond what each theorem states. -/
namespace Go.Proofs.Ytifdceofglocdaa
open Go Go.RowKit Go.PlainAid

/-- m laid over l from place k on -/
def layL (l : List Value) (k : Nat) (m : List Value) : List Value := l.take k ++ m ++ l.drop (k + m.length)
theorem layL_length (l : List Value) (k : Nat) (m : List Value) (h : k + m.length ≤ l.length) : (layL l k m).length = l.length := by simp [layL]; omega
section
variable {P : Program}
theorem run_copyG (w : World) (dT sT ty elem : TypeId) (k : Nat) (hu : P.underlying dT = some (.slice elem)) (hsz : (P.info? elem).map (·.size) = some k)
    (g off dLen dCap : Nat) (a : Addr) (sLen sCap : Nat) (cur : List Value) (t : TypeId) (hg : Bk w g t cur) (m : List Value) (hm : m.length = Nat.min sLen dLen * k)
    (hc : ∀ j v, m[j]? = some v → w.cell? (a.add j) = some v) (hfit : off + m.length ≤ cur.length) (h1 : ∀ v ∈ m, v.oneCell' = true) :
    ∃ w', (Builtin.copy_ #[dT, sT] ty #[.slice (some ⟨g, off, none⟩) dLen dCap, .slice (some a) sLen sCap]).run P w = .ok (goInt ((Nat.min sLen dLen : Nat) : Int)) w' ∧ Bk w' g t (layL cur off m) ∧ Kp (One g) w w' := by
  have ht := hg.there off m.length hfit
  refine ⟨w.setCells g off m, ?_, Bk.sets m off hg hfit, Kp.sets m off (Kp.refl (One g) w) (.inl (One.self g))⟩
  have hl := run_loadCells_list (P := P) w a m hc
  have hst := run_storeCells_cells (P := P) g off m 0 w (fun j hj => by simpa using (ht j hj).1) (fun j hj => by simpa using (ht j hj).2) h1
  cases hq : P.info? elem with
  | none => simp [hq] at hsz
  | some i =>
    have hi : i.size = k := by simpa [hq] using hsz
    simp [Builtin.copy_, run_underlying hu, Builtin.lenOf, Builtin.firstCells, sizeOf, typeInfo, hq, hi, ← hm, hl, hst]
theorem wp_copyG (w : World) {o : Oper} {a : Act} {K : Act → World → Prop} {Q : Exit → Act → World → Prop} (d s : Operand) (dT sT : TypeId)
    (ho : o.op = .call { callee := .builtin .copy, args := #[d, s], argTypes := #[dT, sT] }) (elem : TypeId) (k : Nat) (hu : P.underlying dT = some (.slice elem)) (hsz : (P.info? elem).map (·.size) = some k)
    (g off dLen dCap : Nat) (A : Addr) (sLen sCap : Nat) (hd : a.eval d = .slice (some ⟨g, off, none⟩) dLen dCap) (hs : a.eval s = .slice (some A) sLen sCap)
    (cur : List Value) (t : TypeId) (hg : Bk w g t cur) (m : List Value) (hm : m.length = Nat.min sLen dLen * k) (hc : ∀ j v, m[j]? = some v → w.cell? (A.add j) = some v) (hfit : off + m.length ≤ cur.length) (h1 : ∀ v ∈ m, v.oneCell' = true)
    (h : ∀ w', Bk w' g t (layL cur off m) → Kp (One g) w w' → K (a.put o.dst (goInt ((Nat.min sLen dLen : Nat) : Int))) w') : o.wp P a w K Q := by
  obtain ⟨w', hr, h2, h3⟩ := run_copyG (P := P) w dT sT o.type elem k hu hsz g off dLen dCap A sLen sCap cur t hg m hm hc hfit h1
  unfold Oper.wp execOp
  simp only [ho, resolve, invoke, builtin, Sem.run_bind, Sem.run_pure, Result.andThen_ok, List.map_toArray, List.map_cons, List.map_nil, hd, hs, hr]
  exact h w' h2 h3
theorem wpList_copyG (w : World) {ops : Array Oper} {rest : List Oper} {o : Oper} {a : Act} {Q : Exit → Act → World → Prop} (hgd : o.guard = none) (d s : Operand) (dT sT : TypeId)
    (ho : o.op = .call { callee := .builtin .copy, args := #[d, s], argTypes := #[dT, sT] }) (elem : TypeId) (k : Nat) (hu : P.underlying dT = some (.slice elem)) (hsz : (P.info? elem).map (·.size) = some k)
    (g off dLen dCap : Nat) (A : Addr) (sLen sCap : Nat) (hd : a.eval d = .slice (some ⟨g, off, none⟩) dLen dCap) (hs : a.eval s = .slice (some A) sLen sCap)
    (cur : List Value) (t : TypeId) (hg : Bk w g t cur) (m : List Value) (hm : m.length = Nat.min sLen dLen * k) (hc : ∀ j v, m[j]? = some v → w.cell? (A.add j) = some v) (hfit : off + m.length ≤ cur.length) (h1 : ∀ v ∈ m, v.oneCell' = true)
    (h : ∀ w', Bk w' g t (layL cur off m) → Kp (One g) w w' → wpList P ops Q rest (a.put o.dst (goInt ((Nat.min sLen dLen : Nat) : Int))) w') : wpList P ops Q (o :: rest) a w :=
  wpList_plain hgd fun _ hK => wp_copyG w d s dT sT ho elem k hu hsz g off dLen dCap A sLen sCap hd hs cur t hg m hm hc hfit h1 fun w' h2 h3 => hK _ _ (h w' h2 h3)
/-- the same in a region that draws its order -/
theorem step_copyG {ops : Array Oper} {o : Oper} {a : Act} {w : World} {K : Act → World → Prop} {Q : Exit → Act → World → Prop} {E : Prop} (hgd : o.guard = none) (d s : Operand) (dT sT : TypeId)
    (ho : o.op = .call { callee := .builtin .copy, args := #[d, s], argTypes := #[dT, sT] }) (elem : TypeId) (k : Nat) (hu : P.underlying dT = some (.slice elem)) (hsz : (P.info? elem).map (·.size) = some k)
    (g off dLen dCap : Nat) (A : Addr) (sLen sCap : Nat) (hd : a.eval d = .slice (some ⟨g, off, none⟩) dLen dCap) (hs : a.eval s = .slice (some A) sLen sCap)
    (cur : List Value) (t : TypeId) (hg : Bk w g t cur) (m : List Value) (hm : m.length = Nat.min sLen dLen * k) (hc : ∀ j v, m[j]? = some v → w.cell? (A.add j) = some v) (hfit : off + m.length ≤ cur.length) (h1 : ∀ v ∈ m, v.oneCell' = true)
    (h : ∀ w', Bk w' g t (layL cur off m) → Kp (One g) w w' → K (a.put o.dst (goInt ((Nat.min sLen dLen : Nat) : Int))) w') : if Region.wanted o (yielded ops a.tmps) = true then Oper.wp P o a w K Q else E := by
  have hw : Region.wanted o (yielded ops a.tmps) = true := by simp [Region.wanted, hgd]
  rw [if_pos hw]
  exact wp_copyG w d s dT sT ho elem k hu hsz g off dLen dCap A sLen sCap hd hs cur t hg m hm hc hfit h1 h
/-- append(s, make([]T, n)...) where there is no room -/
theorem run_app_zeros (w : World) (t tn ty e : TypeId) (i : TypeInfo) (z : Value) (kn : IntKind) (ht : P.underlying t = some (.slice e)) (htn : P.underlying tn = some (.int kn)) (hi : P.info? e = some i) (hz : i.zero = some z)
    (a : Addr) (sLen sCap : Nat) (olds : List Value) (hl : olds.length = sLen * i.size) (hold : ∀ j u, olds[j]? = some u → w.cell? (a.add j) = some u) (n : Nat) (h0 : 0 < n) (hs : 0 < i.size) (hg : sCap < sLen + n) (h63 : ((sLen + n : Nat) : Int) ≤ 9223372036854775807)
    (hfit : Builtin.nextslicecap (sLen + n) sCap * i.bytes ≤ 281474976710656) (h48 : n * i.bytes ≤ 281474976710656) :
    (Builtin.append_ #[t, tn] ty #[.slice (some a) sLen sCap, .int .i64 (n : Int)]).run P w =
      .ok (.slice (some ⟨w.heap.size, 0, none⟩) (sLen + n) (grownCap w (sLen + n) sCap e))
        (w.drew.alloc (.cells (olds.toArray ++ Builtin.zeroCells z.cells n ++ Builtin.zeroCells z.cells (grownCap w (sLen + n) sCap e - (sLen + n))) e)) := by
  have hold' := run_firstCells_some (P := P) w.drew i.size sLen a sLen sCap olds hl (fun j u hj => hold j u hj)
  have hn : n ≠ 0 := by omega
  have hw : IntKind.i64.wrap (n : Int) = n := by rw [IntKind.wrap_i64]; omega
  have h63' : ¬ (9223372036854775807 < ((sLen : Int) + (n : Int))) := by omega
  have h48' : ¬ (281474976710656 < Builtin.nextslicecap (sLen + n) sCap * i.bytes) := by omega
  have h48i : ¬ (281474976710656 < (n : Int) * (i.bytes : Int)) := by
    rw [← Int.natCast_mul]
    omega
  have hneg : ¬ ((n : Int) < 0) := by omega
  have hns : ¬ (n * i.size = 0) := Nat.mul_ne_zero hn (by omega)
  have hng : ¬ (sLen + n ≤ sCap) := by omega
  simp [Builtin.append_, run_underlying ht, run_underlying htn, sizeOf, typeInfo, zeroValue, hi, hz, asInt, asIntOf, hw, hneg, hns, hng, h63', h48', h48i, Question.forced, hold', newRow, grownCap]
end
theorem Bk.shape {w : World} {g : Nat} {t : TypeId} {cs : List Value} (h : Bk w g t cs) : w.shape? g = some (t, cs.length) := by
  unfold Bk at h
  simp [World.shape?, h]
theorem grant_size : (Try.prog.info? 30).map (·.size) = some 6 := by kernel_rfl
theorem grant_sizeOf : ∀ w, (Go.sizeOf 30).run Try.prog w = .ok 6 w := fun w => by
  have h := grant_size
  cases hq : Try.prog.info? 30 with
  | none => rw [hq] at h; cases h
  | some i =>
    have hi : i.size = 6 := by simpa [hq] using h
    simp [sizeOf, typeInfo, hq, hi]
theorem overlaps_any (W : World) (vb g o la ca lb cb : Nat) (ys zs : List Value) (hne : vb ≠ g) (hy : Bk W vb 30 ys) (hz : Bk W g 30 zs) (hl : zs.length ≠ 0) :
    (callFunc 92 #[.slice (some ⟨vb, 0, none⟩) la ca, .slice (some ⟨g, o, none⟩) lb cb]).run Try.prog W = .ok (.value (.bool false)) W := by
  rw [run_callFunc_extern Try.func92 (by kernel_rfl) (by kernel_rfl) (by kernel_rfl) (e := Extern.SlicesOverlaps.overlaps #[23, 23] #[4]) (by kernel_rfl),
    Lib.run_overlaps_apart W 23 4 30 Try.underlying23 6 grant_sizeOf ⟨vb, 0, none⟩ ⟨g, o, none⟩ la ca lb cb hne _ _ _ _ hy.shape hz.shape hl (hy.frozen 0) (hy.frozen _)]
  rfl

/-- what Insert answers -/
def InsR (B : Nat) (v : Value) (n i : Nat) (xs ys : List Value) (W : World) (e : Ending) (w' : World) : Prop :=
  ∃ v', e = .returned v' ∧ w'.ownsRow B 30 6 v' (n + 1) (xs.take (i * 6) ++ ys ++ xs.drop (i * 6)) ∧ Kp (fun k => v.ownBlock = some k) W w'
theorem lay_ins (p q6 q' s6 s' ys : List Value) (h6 : q6.length = 6) (hs : s6.length = 6) (hy : ys.length = 6) : layL (layL ((p ++ (q6 ++ q')) ++ (s6 ++ s')) (p.length + 6) (q6 ++ q')) p.length ys = p ++ ys ++ (q6 ++ q') ++ s' := by
  have e1 : layL ((p ++ (q6 ++ q')) ++ (s6 ++ s')) (p.length + 6) (q6 ++ q') = p ++ (q6 ++ (q6 ++ q' ++ s')) := by
    have a1 : ((p ++ (q6 ++ q')) ++ (s6 ++ s')) = (p ++ q6) ++ (q' ++ (s6 ++ s')) := by simp
    have a2 : ((p ++ (q6 ++ q')) ++ (s6 ++ s')) = (p ++ q6 ++ q' ++ s6) ++ s' := by simp
    unfold layL
    rw [show List.drop (p.length + 6 + (q6 ++ q').length) ((p ++ (q6 ++ q')) ++ (s6 ++ s')) = s' by
      rw [a2]; exact List.drop_left' (by simp; omega), show List.take (p.length + 6) ((p ++ (q6 ++ q')) ++ (s6 ++ s')) = p ++ q6 by
      rw [a1]; exact List.take_left' (by simp; omega)]
    simp
  rw [e1]
  unfold layL
  rw [List.take_left' rfl, show List.drop (p.length + ys.length) (p ++ (q6 ++ (q6 ++ q' ++ s'))) = q6 ++ q' ++ s' by
    rw [← List.append_assoc]; exact List.drop_left' (by simp; omega)]
  simp
theorem lay_ins' (xs sp ys : List Value) (n i : Nat) (hx : xs.length = n * 6) (hi : i < n) (hs : 6 ≤ sp.length) (hy : ys.length = 6) :
    layL (layL (xs ++ sp) ((i + 1) * 6) (xs.drop (i * 6))) (i * 6) ys = xs.take (i * 6) ++ ys ++ xs.drop (i * 6) ++ sp.drop 6 := by
  have e := lay_ins (xs.take (i * 6)) ((xs.drop (i * 6)).take 6) ((xs.drop (i * 6)).drop 6) (sp.take 6) (sp.drop 6) ys (by simp; omega) (by simp; omega) hy
  rw [List.take_append_drop, List.take_append_drop, List.take_append_drop, List.length_take, Nat.min_eq_left (by omega)] at e
  rw [show (i + 1) * 6 = i * 6 + 6 by omega]
  exact e
theorem lay_two (p z ys q : List Value) (hy : ys.length = 6) (_hz : 6 + q.length ≤ z.length) : layL (layL (p ++ z) p.length ys) (p.length + 6) q = p ++ ys ++ q ++ z.drop (6 + q.length) := by
  have e1 : layL (p ++ z) p.length ys = p ++ ys ++ z.drop 6 := by
    unfold layL
    rw [List.take_left' rfl, hy, show List.drop (p.length + 6) (p ++ z) = z.drop 6 by rw [List.drop_append, List.drop_eq_nil_of_le (by omega)]; simp]
  rw [e1]
  unfold layL
  rw [List.take_left' (by simp; omega), show List.drop (p.length + 6 + q.length) (p ++ ys ++ z.drop 6) = z.drop (6 + q.length) by
    rw [List.drop_append, List.drop_eq_nil_of_le (by simp; omega), List.length_append, hy, List.drop_drop, List.nil_append]
    congr 1; omega]
set_option maxRecDepth 100000 in
set_option maxHeartbeats 4000000 in
theorem insert_end (B : Nat) (v : Value) (n : Nat) (xs ys : List Value) (vb : Nat) (W : World) (ho : W.ownsRow B 30 6 v n xs) (hn : n ≤ 1000) (hB : B ≤ W.heap.size)
    (hy : Bk W vb 30 ys) (hyl : ys.length = 6) (hy1 : ∀ u ∈ ys, u.oneCell' = true) :
    Calls Try.prog 72 #[v, .int .i64 n, .slice (some ⟨vb, 0, none⟩) 1 1] W (InsR B v n n xs ys W) := by
  have HO := Lib.hid ho; have HY := Lib.hid hy; have HL := Lib.hid hyl; have HY1 := Lib.hid hy1
  obtain ⟨A, c, rfl, hc⟩ := own_len ho
  have hxl : xs.length = n * 6 := ho.1
  have HT := Lib.hid (show xs.take (n * 6) ++ ys ++ xs.drop (n * 6) = xs ++ ys by rw [List.take_of_length_le (by omega), List.drop_eq_nil_of_le (by omega), List.append_nil])
  clear ho hy hyl hy1 hxl
  obtain ⟨Q, hQ⟩ : ∃ Q : Ending → World → Prop, Q = InsR B (.slice A n c) n n xs ys W := ⟨_, rfl⟩
  rw [← hQ]
  have HQ := Lib.hid hQ; clear hQ
  go_enter Try.func72, Try.ntmps72
  go_wp2_with (at_builtin; refine wpList_app1 _ rfl _ _ 23 rfl B 30 _ 6 72 Try.underlying23 Try.infoGr rfl (by omega) _ n xs rfl HO.out vb 1 ys rfl HY.out HL.out HY1.out (by omega) (by omega) hB ?_; intro g5 cap5 w5 hown5 hk5 hat5)
  all_goals
    have hk5 : Kp (fun k => (Value.slice A n c).ownBlock = some k) W w5 := hk5
    have HO5 := Lib.hid hown5; have HK5 := Lib.hid hk5
    clear hown5 hk5 hat5
    rw [HQ.out]
    exact ⟨_, rfl, by rw [HT.out]; exact HO5.out, HK5.out⟩
set_option maxRecDepth 100000 in
set_option maxHeartbeats 4000000 in
theorem insert_room (B : Nat) (g n cap i : Nat) (xs sp ys : List Value) (vb : Nat) (W : World) (hg : Bk W g 30 (xs ++ sp)) (hxl : xs.length = n * 6) (hsp : sp.length = (cap - n) * 6) (hin : i < n) (hcap : n + 1 ≤ cap) (hm : cap ≤ maxLen) (hn : n ≤ 1000) (hBg : B ≤ g)
    (hy : Bk W vb 30 ys) (hyl : ys.length = 6) (hy1 : ∀ u ∈ ys, u.oneCell' = true) (hx1 : ∀ u ∈ xs, u.oneCell' = true) (hne : vb ≠ g) :
    Calls Try.prog 72 #[.slice (some ⟨g, 0, none⟩) n cap, .int .i64 i, .slice (some ⟨vb, 0, none⟩) 1 1] W (InsR B (.slice (some ⟨g, 0, none⟩) n cap) n i xs ys W) := by
  have hov := fun o la ca lb cb => overlaps_any W vb g o la ca lb cb ys (xs ++ sp) hne hy hg (by rw [List.length_append]; omega)
  have HG := Lib.hid hg; have HY := Lib.hid hy; have HX1 := Lib.hid hx1; have HY1 := Lib.hid hy1; have HXL := Lib.hid hxl; have HSP := Lib.hid hsp; have HYL := Lib.hid hyl
  have hb2 : ¬ (cap = i + 1) := by omega
  have hb4 : ¬ (cap = i) := by omega
  have hz2 : ¬ ((i : Int) = (n : Int)) := by omega
  have hcm : cap ≤ 9223372036854775807 := by unfold maxLen at hm; omega
  have hw1 : IntKind.i64.wrap ((n : Int) + 1) = (n : Int) + 1 := by rw [IntKind.wrap_i64]; omega
  have hgt : ¬ (cap : Int) < (n : Int) + 1 := by omega
  have hwi : IntKind.i64.wrap ((i : Int) + 1) = (i : Int) + 1 := by rw [IntKind.wrap_i64]; omega
  have hb1 : (0 : Int) ≤ (i : Int) + 1 := by omega
  have hb3 : (i : Int) + 1 ≤ (n : Int) + 1 := by omega
  have htn : ((i : Int) + 1).toNat = i + 1 := by omega
  have hb5 : (i : Int) ≤ (n : Int) + 1 := by omega
  have hyw : ∀ w', Kp (One g) W w' → Bk w' vb 30 ys := fun w' k => hy.kp k hne
  clear hg hy hyl hy1 hx1 hxl hsp
  obtain ⟨Q, hQ⟩ : ∃ Q : Ending → World → Prop, Q = InsR B (.slice (some ⟨g, 0, none⟩) n cap) n i xs ys W := ⟨_, rfl⟩
  rw [← hQ]
  have HQ := Lib.hid hQ; clear hQ
  have HYW := Lib.hid hyw; clear hyw
  have HR1 := Lib.hid (show ∀ j u, (xs.drop (i * 6))[j]? = some u → W.drew.cell? ((⟨g, i * 6, none⟩ : Addr).add j) = some u from fun j u hj => by
    rw [Addr.add_mid, HG.out.drew.cell, List.getElem?_append_left (by
      have := (List.getElem?_eq_some_iff.1 hj).1
      rw [List.length_drop] at this; omega), ← List.getElem?_drop]
    exact hj)
  have HL1 := Lib.hid (show (xs.drop (i * 6)).length = Nat.min (n + 1 - i) (n + 1 - (i + 1)) * 6 by
    rw [List.length_drop, HXL.out]; simp only [Nat.min_def]; split <;> omega)
  have HF1 := Lib.hid (show (i + 1) * 6 + (xs.drop (i * 6)).length ≤ (xs ++ sp).length by
    rw [List.length_drop, List.length_append, HXL.out, HSP.out]; omega)
  have HO1 := Lib.hid (show ∀ u ∈ xs.drop (i * 6), u.oneCell' = true from fun u hu => HX1.out u (List.mem_of_mem_drop hu))
  go_enter Try.func72, Try.ntmps72
  go_wp2_with (simp only [hov])
  go_region_law (refine step_copyG rfl _ _ 23 23 rfl 30 6 Try.underlying23 grant_size g ((i + 1) * 6) (n + 1 - (i + 1)) (cap - (i + 1)) ⟨g, i * 6, none⟩ (n + 1 - i) (cap - i) (by simp [Act.eval, Act.put]) (by simp [Act.eval, Act.put]) (xs ++ sp) 30 HG.out.drew (xs.drop (i * 6)) HL1.out HR1.out HF1.out HO1.out ?_; intro w1 b1 k1)
  have k1 : Kp (One g) W w1 := ((Kp.refl (One g) W).drew).trans k1
  have HB1 := Lib.hid b1; have HK1 := Lib.hid k1
  have HY2 := Lib.hid (HYW.out _ k1)
  clear b1 k1
  have HM2 := Lib.hid (show ys.length = Nat.min 1 (n + 1 - i) * 6 by rw [HYL.out]; simp only [Nat.min_def]; split <;> omega)
  have HR2 := Lib.hid (show ∀ j u, ys[j]? = some u → w1.cell? ((⟨vb, 0, none⟩ : Addr).add j) = some u from fun j u hj => by
    rw [Addr.add_mid, HY2.out.cell, Nat.zero_add]; exact hj)
  have HF2 := Lib.hid (show i * 6 + ys.length ≤ (layL (xs ++ sp) ((i + 1) * 6) (xs.drop (i * 6))).length by
    rw [layL_length _ _ _ HF1.out, List.length_append, HXL.out, HYL.out]; omega)
  go_wp2_with (refine wpList_copyG w1 rfl (.tmp 80) (.tmp 81) 23 23 rfl 30 6 Try.underlying23 grant_size g (i * 6) (n + 1 - i) (cap - i) ⟨vb, 0, none⟩ 1 1 rfl rfl _ 30 HB1.out ys HM2.out HR2.out HF2.out HY1.out ?_; intro w2 b2 k2)
  have HB2 := Lib.hid b2; have HK2 := Lib.hid k2
  clear b2 k2
  rw [HQ.out]
  have e := lay_ins' xs sp ys n i HXL.out hin (by rw [HSP.out]; omega) HYL.out
  have b := HB2.out
  rw [e] at b
  have hl : (xs.take (i * 6) ++ ys ++ xs.drop (i * 6)).length = (n + 1) * 6 := by
    simp only [List.length_append, List.length_take, List.length_drop, HXL.out, HYL.out]; omega
  refine ⟨_, rfl, ⟨hl, .inr ⟨g, cap, _, rfl, hBg, b, hcap, hm, ?_, ?_⟩⟩, ?_⟩
  · simp only [List.size_toArray, List.length_append, hl, List.length_drop, HSP.out] at hl ⊢
    omega
  · exact List.take_left' hl
  · exact (HK1.out.trans HK2.out).mono fun k _ e => by rw [show k = g from e]; rfl
set_option maxRecDepth 100000 in
set_option maxHeartbeats 4000000 in
theorem insert_grow (B : Nat) (g n i : Nat) (xs ys : List Value) (vb : Nat) (W : World) (hg : Bk W g 30 xs) (hxl : xs.length = n * 6) (hin : i < n) (hn : n ≤ 1000) (hB : B ≤ W.heap.size)
    (hy : Bk W vb 30 ys) (hyl : ys.length = 6) (hy1 : ∀ u ∈ ys, u.oneCell' = true) (hx1 : ∀ u ∈ xs, u.oneCell' = true) :
    Calls Try.prog 72 #[.slice (some ⟨g, 0, none⟩) n n, .int .i64 i, .slice (some ⟨vb, 0, none⟩) 1 1] W (InsR B (.slice (some ⟨g, 0, none⟩) n n) n i xs ys W) := by
  obtain ⟨i0, hi0, hz0, hz1, hz2⟩ := info_parts Try.infoGr
  have hz : ∀ j : Nat, (Builtin.zeroCells (Value.agg #[.int .i64 0, .int .i64 0, .string ⟨#[]⟩, .int .i64 0, .slice none 0 0, .int .i64 0]).cells j).size = j * 6 := fun j => by simp [Builtin.zeroCells, Value.cells]
  have hrow : ∃ cap' w' sp, (∀ ty, (Builtin.append_ #[23, 3] ty #[.slice (some ⟨g, 0, none⟩) i n, .int .i64 ((n + 1 - i : Nat) : Int)]).run Try.prog W = .ok (.slice (some ⟨W.heap.size, 0, none⟩) (n + 1) cap') w') ∧
      Bk w' W.heap.size 30 (xs.take (i * 6) ++ sp) ∧ sp.length = (cap' - i) * 6 ∧ n + 1 ≤ cap' ∧ cap' ≤ maxLen ∧ Kp No W w' := by
    have e1 : i + (n + 1 - i) = n + 1 := by omega
    obtain ⟨Z, hZ⟩ : ∃ Z : Value, Z = .agg #[.int .i64 0, .int .i64 0, .string ⟨#[]⟩, .int .i64 0, .slice none 0 0, .int .i64 0] := ⟨_, rfl⟩
    rw [← hZ] at hz hz0
    refine ⟨grownCap W (n + 1) n 30, W.drew.alloc (.cells ((xs.take (i * 6)).toArray ++ Builtin.zeroCells Z.cells (n + 1 - i) ++ Builtin.zeroCells Z.cells (grownCap W (n + 1) n 30 - (n + 1))) 30),
      (Builtin.zeroCells Z.cells (n + 1 - i) ++ Builtin.zeroCells Z.cells (grownCap W (n + 1) n 30 - (n + 1))).toList, fun ty => ?_, ?_, ?_, grownCap_ge _ _ _ _, grownCap_le_maxLen _ _ _ _ (by unfold maxLen; omega), ((Kp.refl No W).drew).alloc _⟩
    · have h := run_app_zeros (P := Try.prog) W 23 3 ty 30 i0 _ .i64 Try.underlying23 Try.underlying3 hi0 hz0 ⟨g, 0, none⟩ i n (xs.take (i * 6)) (by rw [List.length_take, hz1]; omega)
        (fun j u hj => by
          rw [Addr.add_mid, hg.cell, Nat.zero_add]
          rw [List.getElem?_take] at hj
          split at hj
          · exact hj
          · cases hj) (n + 1 - i) (by omega) (by rw [hz1]; omega) (by omega) (by omega) (by rw [hz2]; exact growslice_fits (by omega) (by omega)) (by rw [hz2]; omega)
      rw [e1] at h
      exact h
    · refine Bk.new' rfl (Array.ext' ?_)
      simp
    · have := grownCap_ge W (n + 1) n 30
      simp only [Array.length_toList, Array.size_append, hz]
      omega
  obtain ⟨cap', w1, sp, hrun, hb, hsp, hc1, hc2, k1⟩ := hrow
  clear hz hz0 hz1 hz2 hi0
  have hgl := hg.lt
  have HG1 := Lib.hid (hg.no k1); have HY1 := Lib.hid (hy.no k1)
  have HB1 := Lib.hid hb; have HSP := Lib.hid hsp; have HXL := Lib.hid hxl; have HYL := Lib.hid hyl; have HO1 := Lib.hid hy1; have HX1 := Lib.hid hx1; have HK1 := Lib.hid k1
  have hb2 : ¬ (cap' = i + 1) := by omega
  have hb4 : ¬ (cap' = i) := by omega
  have hb6 : ¬ (n = i) := by omega
  have hz2 : ¬ ((i : Int) = (n : Int)) := by omega
  have hcm : cap' ≤ 9223372036854775807 := by unfold maxLen at hc2; omega
  have hw1 : IntKind.i64.wrap ((n : Int) + 1) = (n : Int) + 1 := by rw [IntKind.wrap_i64]; omega
  have hw2 : IntKind.i64.wrap ((n : Int) + 1 - (i : Int)) = ((n + 1 - i : Nat) : Int) := by rw [IntKind.wrap_i64]; omega
  have hgt : (n : Int) < (n : Int) + 1 := by omega
  have hwi : IntKind.i64.wrap ((i : Int) + 1) = (i : Int) + 1 := by rw [IntKind.wrap_i64]; omega
  have hb1 : (0 : Int) ≤ (i : Int) + 1 := by omega
  have hb3 : (i : Int) + 1 ≤ (n : Int) + 1 := by omega
  have htn : ((i : Int) + 1).toNat = i + 1 := by omega
  have hb5 : (i : Int) ≤ (n : Int) + 1 := by omega
  have hb7 : (i : Int) ≤ (n : Int) := by omega
  clear hb hsp hxl hyl hy1 hx1 k1 hg hy
  obtain ⟨Q, hQ⟩ : ∃ Q : Ending → World → Prop, Q = InsR B (.slice (some ⟨g, 0, none⟩) n n) n i xs ys W := ⟨_, rfl⟩
  rw [← hQ]
  have HQ := Lib.hid hQ; clear hQ
  have HM1 := Lib.hid (show ys.length = Nat.min 1 (n + 1 - i) * 6 by rw [HYL.out]; simp only [Nat.min_def]; split <;> omega)
  have HR1 := Lib.hid (show ∀ j u, ys[j]? = some u → w1.cell? ((⟨vb, 0, none⟩ : Addr).add j) = some u from fun j u hj => by
    rw [Addr.add_mid, HY1.out.cell, Nat.zero_add]; exact hj)
  have HP := Lib.hid (show (xs.take (i * 6)).length = i * 6 by rw [List.length_take, HXL.out]; omega)
  have HF1 := Lib.hid (show i * 6 + ys.length ≤ (xs.take (i * 6) ++ sp).length by rw [List.length_append, HP.out, HYL.out, HSP.out]; omega)
  go_enter Try.func72, Try.ntmps72
  go_wp2_with (first
    | (at_builtin; refine Lib.wpList_append_run _ rfl _ _ _ _ rfl _ _ rfl rfl _ _ (hrun _) ?_)
    | (refine wpList_copyG w1 rfl (.tmp 43) (.tmp 44) 23 23 rfl 30 6 Try.underlying23 grant_size W.heap.size (i * 6) (n + 1 - i) (cap' - i) ⟨vb, 0, none⟩ 1 1 rfl rfl _ 30 HB1.out ys HM1.out HR1.out HF1.out HO1.out ?_; intro w2 b2 k2))
  have HB2 := Lib.hid b2; have HK2 := Lib.hid k2
  have HG2 := Lib.hid (HG1.out.kp k2 (fun e => by have : g = W.heap.size := e; omega))
  clear b2 k2
  have HM2 := Lib.hid (show (xs.drop (i * 6)).length = Nat.min (n - i) (n + 1 - (i + 1)) * 6 by rw [List.length_drop, HXL.out]; simp only [Nat.min_def]; split <;> omega)
  have HR2 := Lib.hid (show ∀ j u, (xs.drop (i * 6))[j]? = some u → w2.drew.cell? ((⟨g, i * 6, none⟩ : Addr).add j) = some u from fun j u hj => by
    rw [Addr.add_mid, HG2.out.drew.cell, ← List.getElem?_drop]; exact hj)
  have HF2 := Lib.hid (show (i + 1) * 6 + (xs.drop (i * 6)).length ≤ (layL (xs.take (i * 6) ++ sp) (i * 6) ys).length by
    rw [layL_length _ _ _ HF1.out, List.length_append, HP.out, HSP.out, List.length_drop, HXL.out]; omega)
  have HO2 := Lib.hid (show ∀ u ∈ xs.drop (i * 6), u.oneCell' = true from fun u hu => HX1.out u (List.mem_of_mem_drop hu))
  go_region_law (refine step_copyG rfl _ _ 23 23 rfl 30 6 Try.underlying23 grant_size W.heap.size ((i + 1) * 6) (n + 1 - (i + 1)) (cap' - (i + 1)) ⟨g, i * 6, none⟩ (n - i) (n - i) (by simp [Act.eval, Act.put]) (by simp [Act.eval, Act.put]) _ 30 HB2.out.drew (xs.drop (i * 6)) HM2.out HR2.out HF2.out HO2.out ?_; intro w3 b3 k3)
  have k3 : Kp (One W.heap.size) w2 w3 := ((Kp.refl (One W.heap.size) w2).drew).trans k3
  have HB3 := Lib.hid b3; have HK3 := Lib.hid k3
  clear b3 k3
  go_wp2
  rw [HQ.out]
  have e := lay_two (xs.take (i * 6)) sp ys (xs.drop (i * 6)) HYL.out (by rw [HSP.out, List.length_drop, HXL.out]; omega)
  rw [HP.out] at e
  have b := HB3.out
  rw [show (i + 1) * 6 = i * 6 + 6 by omega, e] at b
  have hl : (xs.take (i * 6) ++ ys ++ xs.drop (i * 6)).length = (n + 1) * 6 := by
    simp only [List.length_append, List.length_take, List.length_drop, HXL.out, HYL.out]; omega
  refine ⟨_, rfl, ⟨hl, .inr ⟨W.heap.size, cap', _, rfl, hB, b, hc1, hc2, ?_, List.take_left' hl⟩⟩, ?_⟩
  · simp only [List.size_toArray, List.length_append, hl, List.length_drop, HSP.out, HXL.out] at hl ⊢
    omega
  · exact ((HK1.out.then_ HK2.out fun j hj e => by have : j = W.heap.size := e; omega).then_ HK3.out fun j hj e => by have : j = W.heap.size := e; omega).of_no
/-- a grant put in at place i -/
theorem insert_any (B : Nat) (v : Value) (n i : Nat) (xs ys : List Value) (vb : Nat) (W : World) (ho : W.ownsRow B 30 6 v n xs) (hi : i ≤ n) (hn : n ≤ 1000) (hB : B ≤ W.heap.size)
    (hy : Bk W vb 30 ys) (hyl : ys.length = 6) (hy1 : ∀ u ∈ ys, u.oneCell' = true) (hx1 : ∀ u ∈ xs, u.oneCell' = true) (hne : ¬ v.ownBlock = some vb) :
    Calls Try.prog 72 #[v, .int .i64 i, .slice (some ⟨vb, 0, none⟩) 1 1] W (InsR B v n i xs ys W) := by
  by_cases h : i = n
  · subst h
    exact insert_end B v i xs ys vb W ho hn hB hy hyl hy1
  · have hl := ho.1
    rcases ho.2 with ⟨_, h0⟩ | ⟨g, cap, cur, rfl, hb, hg, hc, hm, hs, ht⟩
    · omega
    · have hb2 : Bk W g 30 (cur.toList.take (n * 6) ++ cur.toList.drop (n * 6)) := by
        rw [List.take_append_drop]; exact hg
      rw [ht] at hb2
      have hne2 : vb ≠ g := fun e => hne (by rw [e]; rfl)
      by_cases hr : n + 1 ≤ cap
      · exact insert_room B g n cap i xs _ ys vb W hb2 hl (by rw [List.length_drop, Array.length_toList, hs]; omega) (by omega) hr hm hn hb hy hyl hy1 hx1 hne2
      · obtain rfl : cap = n := by omega
        have e0 : cur.toList.drop (cap * 6) = [] := List.drop_eq_nil_of_le (by rw [Array.length_toList, hs]; omega)
        rw [e0, List.append_nil] at hb2
        exact insert_grow B g cap i xs ys vb W hb2 hl (by omega) hn hB hy hyl hy1 hx1
end Go.Proofs.Ytifdceofglocdaa

/- A grant taken out from among others: slices.Delete by contract. No condition beyond what each theorem states. -/
namespace Go.Proofs.Ytifdceofglocdaa
open Go Go.RowKit Go.PlainAid

section
variable {P : Program}
theorem zeroCells_one (z : Array Value) : Builtin.zeroCells z 1 = z := by
  apply Array.ext
  · simp [Builtin.zeroCells]
  · intro i h1 h2
    simp [Builtin.zeroCells, Nat.mod_eq_of_lt h2, h2]
theorem run_clear_one (w : World) (t e ty : TypeId) (z : Value) (ht : P.underlying t = some (.slice e)) (hv : ∀ w, (zeroValue e).run P w = .ok z w) (h1 : ∀ v ∈ z.cells.toList, v.oneCell' = true) (b o c : Nat)
    (hc : ∀ j, j < z.cells.size → (w.cell? ⟨b, o + j, none⟩).isSome = true) (hf : ∀ j, j < z.cells.size → w.frozen? ⟨b, o + j, none⟩ = false) :
    (Builtin.clear_ #[t] ty #[.slice (some ⟨b, o, none⟩) 1 c]).run P w = .ok (.tuple #[]) (w.setCells b o z.cells.toList) := by
  have hst := run_storeCells_cells (P := P) b o z.cells.toList 0 w (by simpa using hc) (by simpa using hf) h1
  simp only [Nat.add_zero] at hst
  simp [Builtin.clear_, run_underlying ht, hv, zeroCells_one, hst]
end
/-- what Delete answers -/
def DelR (B : Nat) (v : Value) (k i : Nat) (xs : List Value) (W : World) (e : Ending) (w' : World) : Prop :=
  ∃ v', e = .returned v' ∧ w'.ownsRow B 30 6 v' k (xs.take (i * 6) ++ xs.drop ((i + 1) * 6)) ∧ Kp (fun k => v.ownBlock = some k) W w'
def gZ : List Value := [.int .i64 0, .int .i64 0, .string ⟨#[]⟩, .int .i64 0, .slice none 0 0, .int .i64 0]
theorem lay_del (xs sp zs : List Value) (k i : Nat) (hx : xs.length = (k + 1) * 6) (hi : i ≤ k) (hz : zs.length = 6) :
    ∃ r, layL (layL (xs ++ sp) (i * 6) (xs.drop ((i + 1) * 6))) (k * 6) zs = (xs.take (i * 6) ++ xs.drop ((i + 1) * 6)) ++ r ∧ r.length = 6 + sp.length := by
  have hl : (xs.take (i * 6) ++ xs.drop ((i + 1) * 6)).length = k * 6 := by
    rw [List.length_append, List.length_take, List.length_drop, hx]; omega
  refine ⟨zs ++ (layL (xs ++ sp) (i * 6) (xs.drop ((i + 1) * 6))).drop (k * 6 + zs.length), ?_, ?_⟩
  · have e : (layL (xs ++ sp) (i * 6) (xs.drop ((i + 1) * 6))).take (k * 6) = xs.take (i * 6) ++ xs.drop ((i + 1) * 6) := by
      unfold layL
      rw [List.take_append_of_le_length (l₁ := xs) (by omega)]
      exact List.take_left' hl
    conv => lhs; unfold layL
    rw [show List.take (k * 6) (List.take (i * 6) (xs ++ sp) ++ List.drop ((i + 1) * 6) xs ++ List.drop (i * 6 + (List.drop ((i + 1) * 6) xs).length) (xs ++ sp)) = xs.take (i * 6) ++ xs.drop ((i + 1) * 6) from e, List.append_assoc]
    rfl
  · rw [List.length_append, List.length_drop, layL_length _ _ _ (by rw [List.length_drop, List.length_append]; omega), List.length_append, hz, hx]; omega
set_option maxRecDepth 100000 in
set_option maxHeartbeats 1000000 in
theorem delete_core (B g k cap i : Nat) (xs sp : List Value) (W : World) (hg : Bk W g 30 (xs ++ sp)) (hxl : xs.length = (k + 1) * 6) (hsp : sp.length = (cap - (k + 1)) * 6) (hi : i ≤ k) (hcap : k + 1 ≤ cap) (hm : cap ≤ maxLen) (hn : k ≤ 1000) (hBg : B ≤ g)
    (hx1 : ∀ u ∈ xs, u.oneCell' = true) :
    Calls Try.prog 74 #[.slice (some ⟨g, 0, none⟩) (k + 1) cap, .int .i64 i, .int .i64 ((i : Int) + 1)] W (DelR B (.slice (some ⟨g, 0, none⟩) (k + 1) cap) k i xs W) := by
  obtain ⟨i0, hi0, hz0, hz1, hz2⟩ := info_parts Try.infoGr
  obtain ⟨A, hA, hsrc⟩ : ∃ A : Addr, (if cap = i + 1 then (some ⟨g, 0, none⟩ : Option Addr) else some ⟨g, (i + 1) * 6, none⟩) = some A ∧ Hid (∀ j u, (xs.drop ((i + 1) * 6))[j]? = some u → W.drew.cell? (A.add j) = some u) := by
    by_cases h : cap = i + 1
    · refine ⟨⟨g, 0, none⟩, by rw [if_pos h], fun j u hu => ?_⟩
      rw [List.drop_eq_nil_of_le (by omega)] at hu
      simp at hu
    · refine ⟨⟨g, (i + 1) * 6, none⟩, by rw [if_neg h], fun j u hu => ?_⟩
      rw [Addr.add_mid, hg.drew.cell, List.getElem?_append_left (by
        have := (List.getElem?_eq_some_iff.1 hu).1
        rw [List.length_drop] at this; omega), ← List.getElem?_drop]
      exact hu
  have s1 := Lib.hid (show (xs.drop ((i + 1) * 6)).length = (k - i) * 6 by rw [List.length_drop, hxl]; omega)
  have s2 := Lib.hid (show ∀ u ∈ xs.drop ((i + 1) * 6), u.oneCell' = true from fun u hu => hx1 u (List.mem_of_mem_drop hu))
  have hf : i * 6 + (xs.drop ((i + 1) * 6)).length ≤ (xs ++ sp).length := by rw [s1.out, List.length_append, hxl]; omega
  have s3 := Lib.hid (show ∀ j, j < (xs.drop ((i + 1) * 6)).length → (W.drew.cell? ⟨g, 0 + i * 6 + j, none⟩).isSome = true ∧ W.drew.frozen? ⟨g, 0 + i * 6 + j, none⟩ = false from fun j hj => by
    rw [Nat.zero_add]; exact hg.drew.there (i * 6) _ hf j hj)
  obtain ⟨W1, hW1⟩ : ∃ W1, W1 = W.drew.setCells g (0 + i * 6) (xs.drop ((i + 1) * 6)) := ⟨_, rfl⟩
  have hb1 : Bk W1 g 30 (layL (xs ++ sp) (i * 6) (xs.drop ((i + 1) * 6))) := by
    rw [hW1, Nat.zero_add]; exact Bk.sets _ _ hg.drew hf
  have hk1 : Kp (One g) W W1 := by rw [hW1]; exact Kp.sets _ _ (Kp.drew (Kp.refl (One g) W)) (.inl (One.self g))
  have hl1 : (layL (xs ++ sp) (i * 6) (xs.drop ((i + 1) * 6))).length = cap * 6 := by rw [layL_length _ _ _ hf, List.length_append, hxl, hsp]; omega
  have hth := hb1.there (k * 6) 6 (by rw [hl1]; omega)
  have hcl : ∀ ty, (Builtin.clear_ #[23] ty #[.slice (some ⟨g, k * 6, none⟩) 1 (cap - k)]).run Try.prog W1 = .ok (.tuple #[]) (W1.setCells g (k * 6) gZ) := fun ty =>
    run_clear_one W1 23 30 ty (.agg #[.int .i64 0, .int .i64 0, .string ⟨#[]⟩, .int .i64 0, .slice none 0 0, .int .i64 0]) Try.underlying23 (fun w => by simp [zeroValue, typeInfo, hi0, hz0]) (by simp [Value.cells, Value.oneCell']) g (k * 6) (cap - k) (fun j hj => (hth j hj).1) (fun j hj => (hth j hj).2)
  have HF := Lib.hid (show DelR B (.slice (some ⟨g, 0, none⟩) (k + 1) cap) k i xs W (.returned (.slice (some ⟨g, 0, none⟩) k cap)) (W1.setCells g (k * 6) gZ) by
    have hb2 := Bk.sets gZ (k * 6) hb1 (by rw [hl1]; show k * 6 + 6 ≤ _; omega)
    obtain ⟨r, e, hr⟩ := lay_del xs sp gZ k i hxl hi rfl
    have hb2 : Bk (W1.setCells g (k * 6) gZ) g 30 (layL (layL (xs ++ sp) (i * 6) (xs.drop ((i + 1) * 6))) (k * 6) gZ) := hb2
    rw [e] at hb2
    have hl : (xs.take (i * 6) ++ xs.drop ((i + 1) * 6)).length = k * 6 := by rw [List.length_append, List.length_take, List.length_drop, hxl]; omega
    refine ⟨_, rfl, ⟨hl, .inr ⟨g, cap, _, rfl, hBg, hb2, by omega, hm, ?_, List.take_left' hl⟩⟩, ?_⟩
    · rw [List.size_toArray, List.length_append, hl, hr, hsp]; omega
    · exact (Kp.sets gZ (k * 6) hk1 (.inl (One.self g))).mono fun j _ e => by rw [show j = g from e]; rfl)
  have HW := Lib.hid hW1
  clear hW1 hb1 hk1 hl1 hth hf hg hxl hsp hx1 hz0 hz2
  obtain ⟨Q, hQ⟩ : ∃ Q : Ending → World → Prop, Q = DelR B (.slice (some ⟨g, 0, none⟩) (k + 1) cap) k i xs W := ⟨_, rfl⟩
  rw [← hQ] at HF ⊢
  clear hQ
  have hcm : cap ≤ 9223372036854775807 := by unfold maxLen at hm; omega
  have hwi : IntKind.i64.wrap ((i : Int) + 1) = (i : Int) + 1 := by rw [IntKind.wrap_i64]; omega
  have q1 : (0 : Int) ≤ (i : Int) + 1 := by omega
  have htn : ((i : Int) + 1).toNat = i + 1 := by omega
  have q2 : (i : Int) ≤ (i : Int) + 1 := by omega
  have q3 : (i : Int) + 1 ≤ (k : Int) + 1 := by omega
  have q4 : (k : Int) + 1 ≤ (cap : Int) := by omega
  have q5 : ((i : Int) == (i : Int) + 1) = false := by rw [beq_eq_false_iff_ne]; omega
  have q6 : (i : Int) ≤ (cap : Int) := by omega
  have q7 : ¬ (cap = k) := by omega
  have q8 : (k : Int) ≤ (k : Int) + 1 := by omega
  have q9 : (0 : Int) ≤ (k : Int) + 1 := by omega
  have q10 : ((k : Int) + 1).toNat = k + 1 := by omega
  have q11 : k + 1 - k = 1 := by omega
  go_enter Try.func74, Try.ntmps74
  go_wp2_with fail
  go_region_law (refine step_append_room rfl (.tmp 22) (.tmp 25) 23 rfl 30 i0 6 Try.underlying23 hi0 hz1 g 0 i cap (by simp [Act.eval, Act.put]) A (k - i) (cap - (i + 1)) (xs.drop ((i + 1) * 6)) (by simp [Act.eval, Act.put]) s1.out hsrc.out s2.out (by omega) s3.out ?_; rw [← HW.out, show i + (k - i) = k by omega])
  go_wp2
  exact HF.out
/-- the grant at place i taken out -/
theorem delete_any (B : Nat) (v : Value) (k i : Nat) (xs : List Value) (W : World) (ho : W.ownsRow B 30 6 v (k + 1) xs) (hi : i ≤ k) (hn : k ≤ 1000) (hx1 : ∀ u ∈ xs, u.oneCell' = true) :
    Calls Try.prog 74 #[v, .int .i64 i, .int .i64 ((i : Int) + 1)] W (DelR B v k i xs W) := by
  have hl := ho.1
  rcases ho.2 with ⟨_, h0⟩ | ⟨g, cap, cur, rfl, hb, hg, hc, hm, hs, ht⟩
  · omega
  · have hb2 : Bk W g 30 (cur.toList.take ((k + 1) * 6) ++ cur.toList.drop ((k + 1) * 6)) := by
      rw [List.take_append_drop]; exact hg
    rw [ht] at hb2
    exact delete_core B g k cap i xs _ W hb2 hl (by rw [List.length_drop, Array.length_toList, hs]; omega) hi hc hm hn hb hx1
end Go.Proofs.Ytifdceofglocdaa
