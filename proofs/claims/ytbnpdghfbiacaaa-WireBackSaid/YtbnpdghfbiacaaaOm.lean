/- The law's own messages by contract. No condition beyond what each theorem states. -/
import Derived.Test.YtbnpdghfbiacaaaMx
namespace Go.Proofs.Ytbnpdghfbiacaaa
open Go Go.RowKit Go.PlainAid

/-- the message of the examples -/
def smallM : Msg := { kind := 1, from_ := 1, dest := 0, boot := 1, seq := 2, low := 1, verb := 1, path := [97, 47, 98], mode := 2, term := 300 }
def OwnMR (W : World) (m : Msg) (e : Ending) (w' : World) : Prop := ∃ sv, e = .returned (.agg (mcells m sv).toArray) ∧ w'.ownsRow W.heap.size 3 1 sv m.stamp.length (ints m.stamp) ∧ Kp No W w'
set_option maxRecDepth 100000 in
set_option maxHeartbeats 4000000 in
theorem own_any (m : Msg) (sv : Value) (W : World) (hs : ArgInts W sv m.stamp) (hl : m.stamp.length ≤ 17592186044416) :
    Calls Try.prog 9 #[.agg (mcells m sv).toArray] W (OwnMR W m) := by
  have HS := Lib.hid hs
  obtain ⟨A, c, rfl, _, _⟩ := hs
  have HB1 := Lib.hid (show Bk (((W.alloc (.cells (mcells m (.slice A m.stamp.length c)).toArray 29)).alloc (.cells #[.int .i64 0, .int .i64 0, .int .i64 0, .int .i64 0, .int .i64 0, .int .i64 0, .int .i64 0, .string ⟨#[]⟩, .int .i64 0, .int .i64 0, .int .i64 0, .bool false, .int .i64 0, .slice none 0 0, .int .i64 0, .int .i64 0] 29)).alloc (.cells #[] 3)) W.heap.size 29 (mcells m (.slice A m.stamp.length c)) from (((Bk.new' rfl rfl).alloc _).alloc _))
  have HB2 := Lib.hid (show Bk (((W.alloc (.cells (mcells m (.slice A m.stamp.length c)).toArray 29)).alloc (.cells #[.int .i64 0, .int .i64 0, .int .i64 0, .int .i64 0, .int .i64 0, .int .i64 0, .int .i64 0, .string ⟨#[]⟩, .int .i64 0, .int .i64 0, .int .i64 0, .bool false, .int .i64 0, .slice none 0 0, .int .i64 0, .int .i64 0] 29)).alloc (.cells #[] 3)) (W.heap.size + 1) 29 (mcells {} (.slice none 0 0)) from (Bk.new' (by simp) rfl).alloc _)
  have kA : Kp No W (((W.alloc (.cells (mcells m (.slice A m.stamp.length c)).toArray 29)).alloc (.cells #[.int .i64 0, .int .i64 0, .int .i64 0, .int .i64 0, .int .i64 0, .int .i64 0, .int .i64 0, .string ⟨#[]⟩, .int .i64 0, .int .i64 0, .int .i64 0, .bool false, .int .i64 0, .slice none 0 0, .int .i64 0, .int .i64 0] 29)).alloc (.cells #[] 3)) := (((Kp.refl No W).alloc _).alloc _).alloc _
  have HO := Lib.hid (show World.ownsRow (((W.alloc (.cells (mcells m (.slice A m.stamp.length c)).toArray 29)).alloc (.cells #[.int .i64 0, .int .i64 0, .int .i64 0, .int .i64 0, .int .i64 0, .int .i64 0, .int .i64 0, .string ⟨#[]⟩, .int .i64 0, .int .i64 0, .int .i64 0, .bool false, .int .i64 0, .slice none 0 0, .int .i64 0, .int .i64 0] 29)).alloc (.cells #[] 3)) W.heap.size 3 1 (.slice (some ⟨W.heap.size + 1 + 1, 0, none⟩) 0 0) 0 [] from by
    have := own_fresh ((W.alloc (.cells (mcells m (.slice A m.stamp.length c)).toArray 29)).alloc (.cells #[.int .i64 0, .int .i64 0, .int .i64 0, .int .i64 0, .int .i64 0, .int .i64 0, .int .i64 0, .string ⟨#[]⟩, .int .i64 0, .int .i64 0, .int .i64 0, .bool false, .int .i64 0, .slice none 0 0, .int .i64 0, .int .i64 0] 29)) W.heap.size 3 (by simp; omega)
    simpa using this)
  have HS2 := Lib.hid (HS.out.no kA)
  have HKA := Lib.hid kA
  have hsz : W.heap.size ≤ (((W.alloc (.cells (mcells m (.slice A m.stamp.length c)).toArray 29)).alloc (.cells #[.int .i64 0, .int .i64 0, .int .i64 0, .int .i64 0, .int .i64 0, .int .i64 0, .int .i64 0, .string ⟨#[]⟩, .int .i64 0, .int .i64 0, .int .i64 0, .bool false, .int .i64 0, .slice none 0 0, .int .i64 0, .int .i64 0] 29)).alloc (.cells #[] 3)).heap.size := kA.size
  clear kA
  have z13 := HB1.out.cell 13
  unfold mcells at HB1 HB2 HO HS2 HKA hsz z13 ⊢
  simp only [List.getElem?_cons_zero, List.getElem?_cons_succ] at z13
  go_enter Try.func9, Try.ntmps9
  go_wp2_with (at_builtin; refine (wpList_appV _ rfl _ _ 27 rfl W.heap.size 3 _ 8 Try.underlying27 Try.infoI rfl _ 0 [] rfl HO.out A m.stamp.length c (ints m.stamp) rfl (by simp) HS2.out.cs.1 (ints_one _) (by omega) (by omega) hsz ?_); intro v1 w1 o1 k1 _; rw [Nat.zero_add, List.nil_append] at o1; obtain ⟨A1, c1, hv1, _⟩ := own_len o1; subst hv1; have k1b : Kp (fun k => some (W.heap.size + 1 + 1) = some k) _ w1 := k1; have B1 := HB1.out.kp k1b (fun e => by injection e with e; omega); have B2 := HB2.out.kp k1b (fun e => by injection e with e; omega); have z0 : w1.cell? ⟨W.heap.size, 0, none⟩ = some (.int .i64 m.kind) := B1.cell 0; have z1 : w1.cell? ⟨W.heap.size, 1, none⟩ = some (.int .i64 m.from_) := B1.cell 1; have z2 : w1.cell? ⟨W.heap.size, 2, none⟩ = some (.int .i64 m.dest) := B1.cell 2; have z3 : w1.cell? ⟨W.heap.size, 3, none⟩ = some (.int .i64 m.boot) := B1.cell 3; have z4 : w1.cell? ⟨W.heap.size, 4, none⟩ = some (.int .i64 m.seq) := B1.cell 4; have z5 : w1.cell? ⟨W.heap.size, 5, none⟩ = some (.int .i64 m.low) := B1.cell 5; have z6 : w1.cell? ⟨W.heap.size, 6, none⟩ = some (.int .i64 m.verb) := B1.cell 6; have z7 : w1.cell? ⟨W.heap.size, 7, none⟩ = some (.string ⟨m.path.toArray⟩) := B1.cell 7; have z8 : w1.cell? ⟨W.heap.size, 8, none⟩ = some (.int .i64 m.mode) := B1.cell 8; have z9 : w1.cell? ⟨W.heap.size, 9, none⟩ = some (.int .i64 m.term) := B1.cell 9; have z10 : w1.cell? ⟨W.heap.size, 10, none⟩ = some (.int .i64 m.id) := B1.cell 10; have z11 : w1.cell? ⟨W.heap.size, 11, none⟩ = some (.bool m.fresh) := B1.cell 11; have z12 : w1.cell? ⟨W.heap.size, 12, none⟩ = some (.int .i64 m.code) := B1.cell 12; have z13 : w1.cell? ⟨W.heap.size, 13, none⟩ = some (.slice A m.stamp.length c) := B1.cell 13; have z14 : w1.cell? ⟨W.heap.size, 14, none⟩ = some (.int .i64 m.origin) := B1.cell 14; have z15 : w1.cell? ⟨W.heap.size, 15, none⟩ = some (.int .i64 m.number) := B1.cell 15; have y0 : w1.cell? ⟨W.heap.size + 1, 0, none⟩ = some (.int .i64 0) := B2.cell 0; have y1 : w1.cell? ⟨W.heap.size + 1, 1, none⟩ = some (.int .i64 0) := B2.cell 1; have y2 : w1.cell? ⟨W.heap.size + 1, 2, none⟩ = some (.int .i64 0) := B2.cell 2; have y3 : w1.cell? ⟨W.heap.size + 1, 3, none⟩ = some (.int .i64 0) := B2.cell 3; have y4 : w1.cell? ⟨W.heap.size + 1, 4, none⟩ = some (.int .i64 0) := B2.cell 4; have y5 : w1.cell? ⟨W.heap.size + 1, 5, none⟩ = some (.int .i64 0) := B2.cell 5; have y6 : w1.cell? ⟨W.heap.size + 1, 6, none⟩ = some (.int .i64 0) := B2.cell 6; have y7 : w1.cell? ⟨W.heap.size + 1, 7, none⟩ = some (.string ⟨#[]⟩) := B2.cell 7; have y8 : w1.cell? ⟨W.heap.size + 1, 8, none⟩ = some (.int .i64 0) := B2.cell 8; have y9 : w1.cell? ⟨W.heap.size + 1, 9, none⟩ = some (.int .i64 0) := B2.cell 9; have y10 : w1.cell? ⟨W.heap.size + 1, 10, none⟩ = some (.int .i64 0) := B2.cell 10; have y11 : w1.cell? ⟨W.heap.size + 1, 11, none⟩ = some (.bool false) := B2.cell 11; have y12 : w1.cell? ⟨W.heap.size + 1, 12, none⟩ = some (.int .i64 0) := B2.cell 12; have y13 : w1.cell? ⟨W.heap.size + 1, 13, none⟩ = some (.slice none 0 0) := B2.cell 13; have y14 : w1.cell? ⟨W.heap.size + 1, 14, none⟩ = some (.int .i64 0) := B2.cell 14; have y15 : w1.cell? ⟨W.heap.size + 1, 15, none⟩ = some (.int .i64 0) := B2.cell 15; have zf := B1.frozen; have yf := B2.frozen; have O1 := Lib.hid o1; have K1 := Lib.hid (kp_own HO.out HKA.out k1b); have HB9 := Lib.hid B2; have HB8 := Lib.hid B1; clear o1 k1 k1b B1 B2)
  have B9 := setMsg (m0 := {}) (sv0 := .slice none 0 0) (m := m) (sv := .slice A1 m.stamp.length c1) (HB9.out.far (p := ⟨W.heap.size, 13, none⟩) (by show W.heap.size + 1 ≠ W.heap.size; omega) (.slice A1 m.stamp.length c1))
  have kx : Kp (fun k => k = W.heap.size ∨ k = W.heap.size + 1) w1 (((((((((((((((((w1.setCell ⟨W.heap.size, 13, none⟩ (.slice A1 m.stamp.length c1)).setCell ⟨(W.heap.size + 1), 0, none⟩ (.int .i64 m.kind)).setCell ⟨(W.heap.size + 1), 1, none⟩ (.int .i64 m.from_)).setCell ⟨(W.heap.size + 1), 2, none⟩ (.int .i64 m.dest)).setCell ⟨(W.heap.size + 1), 3, none⟩ (.int .i64 m.boot)).setCell ⟨(W.heap.size + 1), 4, none⟩ (.int .i64 m.seq)).setCell ⟨(W.heap.size + 1), 5, none⟩ (.int .i64 m.low)).setCell ⟨(W.heap.size + 1), 6, none⟩ (.int .i64 m.verb)).setCell ⟨(W.heap.size + 1), 7, none⟩ (.string ⟨m.path.toArray⟩)).setCell ⟨(W.heap.size + 1), 8, none⟩ (.int .i64 m.mode)).setCell ⟨(W.heap.size + 1), 9, none⟩ (.int .i64 m.term)).setCell ⟨(W.heap.size + 1), 10, none⟩ (.int .i64 m.id)).setCell ⟨(W.heap.size + 1), 11, none⟩ (.bool m.fresh)).setCell ⟨(W.heap.size + 1), 12, none⟩ (.int .i64 m.code)).setCell ⟨(W.heap.size + 1), 13, none⟩ (.slice A1 m.stamp.length c1)).setCell ⟨(W.heap.size + 1), 14, none⟩ (.int .i64 m.origin)).setCell ⟨(W.heap.size + 1), 15, none⟩ (.int .i64 m.number)) := ((((((((((((((((((Kp.refl (fun k => k = W.heap.size ∨ k = W.heap.size + 1) w1).set (.inl (.inl rfl)) 13 _).set (.inl (.inr rfl)) 0 _).set (.inl (.inr rfl)) 1 _).set (.inl (.inr rfl)) 2 _).set (.inl (.inr rfl)) 3 _).set (.inl (.inr rfl)) 4 _).set (.inl (.inr rfl)) 5 _).set (.inl (.inr rfl)) 6 _).set (.inl (.inr rfl)) 7 _).set (.inl (.inr rfl)) 8 _).set (.inl (.inr rfl)) 9 _).set (.inl (.inr rfl)) 10 _).set (.inl (.inr rfl)) 11 _).set (.inl (.inr rfl)) 12 _).set (.inl (.inr rfl)) 13 _).set (.inl (.inr rfl)) 14 _).set (.inl (.inr rfl)) 15 _)
  generalize (((((((((((((((((w1.setCell ⟨W.heap.size, 13, none⟩ (.slice A1 m.stamp.length c1)).setCell ⟨(W.heap.size + 1), 0, none⟩ (.int .i64 m.kind)).setCell ⟨(W.heap.size + 1), 1, none⟩ (.int .i64 m.from_)).setCell ⟨(W.heap.size + 1), 2, none⟩ (.int .i64 m.dest)).setCell ⟨(W.heap.size + 1), 3, none⟩ (.int .i64 m.boot)).setCell ⟨(W.heap.size + 1), 4, none⟩ (.int .i64 m.seq)).setCell ⟨(W.heap.size + 1), 5, none⟩ (.int .i64 m.low)).setCell ⟨(W.heap.size + 1), 6, none⟩ (.int .i64 m.verb)).setCell ⟨(W.heap.size + 1), 7, none⟩ (.string ⟨m.path.toArray⟩)).setCell ⟨(W.heap.size + 1), 8, none⟩ (.int .i64 m.mode)).setCell ⟨(W.heap.size + 1), 9, none⟩ (.int .i64 m.term)).setCell ⟨(W.heap.size + 1), 10, none⟩ (.int .i64 m.id)).setCell ⟨(W.heap.size + 1), 11, none⟩ (.bool m.fresh)).setCell ⟨(W.heap.size + 1), 12, none⟩ (.int .i64 m.code)).setCell ⟨(W.heap.size + 1), 13, none⟩ (.slice A1 m.stamp.length c1)).setCell ⟨(W.heap.size + 1), 14, none⟩ (.int .i64 m.origin)).setCell ⟨(W.heap.size + 1), 15, none⟩ (.int .i64 m.number)) = w9 at *
  have x0 := B9.cell 0
  have x1 := B9.cell 1
  have x2 := B9.cell 2
  have x3 := B9.cell 3
  have x4 := B9.cell 4
  have x5 := B9.cell 5
  have x6 := B9.cell 6
  have x7 := B9.cell 7
  have x8 := B9.cell 8
  have x9 := B9.cell 9
  have x10 := B9.cell 10
  have x11 := B9.cell 11
  have x12 := B9.cell 12
  have x13 := B9.cell 13
  have x14 := B9.cell 14
  have x15 := B9.cell 15
  simp only [mcells, List.getElem?_cons_zero, List.getElem?_cons_succ] at x0 x1 x2 x3 x4 x5 x6 x7 x8 x9 x10 x11 x12 x13 x14 x15
  have HX9 := Lib.hid kx
  have HN := Lib.hid (show ∀ k, (Value.slice A1 m.stamp.length c1).ownBlock = some k → ¬ (k = W.heap.size ∨ k = W.heap.size + 1) from fun k e => by
    obtain ⟨cs, hb⟩ := own_bk O1.out k e
    rintro (rfl | rfl)
    · exact hb.ne_ HB8.out (by decide) rfl
    · exact hb.ne_ HB9.out (by decide) rfl)
  clear kx B9
  refine bodyPost_ret (v := .agg (mcells m (.slice A1 m.stamp.length c1)).toArray) (by simp [results, Try.results9, go_sem, x0, x1, x2, x3, x4, x5, x6, x7, x8, x9, x10, x11, x12, x13, x14, x15, mcells]) rfl ?_
  exact ⟨_, rfl, own_kp O1.out HX9.out HN.out, K1.out.then_ HX9.out fun j hj e => by omega⟩
set_option maxRecDepth 100000 in
set_option maxHeartbeats 4000000 in
theorem small_any (W : World) : Calls Try.prog 14 #[] W fun e w' => e = .returned (.agg (mcells smallM (.slice none 0 0)).toArray) ∧ Kp No W w' := by
  go_enter Try.func14, Try.ntmps14
  go_wp2
  refine bodyPost_ret (v := .agg (mcells smallM (.slice none 0 0)).toArray) (by simp [results, Try.results14, go_sem, mcells, smallM]) rfl ⟨rfl, ?_⟩
  exact (Kp.refl _ _).alloc _
end Go.Proofs.Ytbnpdghfbiacaaa
