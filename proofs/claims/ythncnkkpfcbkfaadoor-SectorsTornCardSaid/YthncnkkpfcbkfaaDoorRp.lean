/- The reference's Scan by contract. No condition beyond what each theorem states. -/
import Derived.Test.YthncnkkpfcbkfaaDoorRo
namespace Go.Proofs.YthncnkkpfcbkfaaDoor
open Go Go.RowKit

/-- what the loop of the reference's Scan keeps -/
def RScanInv (w : World) (L : List (List UInt8)) (gen : Int) (v uv : Value) (wr : World) : Prop :=
  ∃ (recs : List (List UInt8)) (used : Nat), recs.length ≤ used ∧ used ≤ L.length ∧ scanS L gen = scanF L gen (L.length + 1 - recs.length) used recs ∧ uv = .int .i64 used ∧ Rows wr w.heap.size v recs ∧ (∃ A c, v = .slice A recs.length c) ∧ Kp No w wr
theorem scan_stop {L : List (List UInt8)} {gen : Int} {used : Nat} {recs : List (List UInt8)} (h : scanS L gen = scanF L gen (L.length + 1 - recs.length) used recs) (h1 : recs.length ≤ L.length) (h2 : oneS L gen used recs.length = none) : scanS L gen = (recs, used) := by
  obtain ⟨f, hf⟩ : ∃ f, L.length + 1 - recs.length = f + 1 := ⟨L.length - recs.length, by omega⟩
  rw [h, hf]
  show (match oneS L gen used recs.length with | none => (recs, used) | some (d, n) => scanF L gen f (used + n) (recs ++ [d])) = _
  rw [h2]
theorem scan_go {L : List (List UInt8)} {gen : Int} {used n : Nat} {recs : List (List UInt8)} {d : List UInt8} (h : scanS L gen = scanF L gen (L.length + 1 - recs.length) used recs) (h1 : recs.length ≤ L.length) (h2 : oneS L gen used recs.length = some (d, n)) : scanS L gen = scanF L gen (L.length + 1 - (recs ++ [d]).length) (used + n) (recs ++ [d]) := by
  obtain ⟨f, hf⟩ : ∃ f, L.length + 1 - recs.length = f + 1 := ⟨L.length - recs.length, by omega⟩
  have e : L.length + 1 - (recs ++ [d]).length = f := by simp; omega
  rw [h, hf, e]
  show (match oneS L gen used recs.length with | none => (recs, used) | some (d, n) => scanF L gen f (used + n) (recs ++ [d])) = _
  rw [h2]
theorem rone_nil (A : Option Addr) (c : Nat) (gen : Int) (seq : Nat) (w : World) :
    Calls Tryd.prog 32 #[.slice A 0 c, .int .i64 gen, .int .i64 (seq : Int)] w fun e w' => e = .returned (.tuple #[.slice none 0 0, .int .i64 0, .bool false]) ∧ Kp No w w' := by
  refine (rone_any (.slice A 0 c) gen seq [] w (ArgR.nil _ _ _)).mono ?_
  rintro e w' ⟨k, hr⟩
  rw [oneS_out (by simp)] at hr
  exact ⟨hr, k⟩

set_option maxRecDepth 100000 in
set_option maxHeartbeats 4000000 in
theorem rscan_any (lv : Value) (gen : Int) (L : List (List UInt8)) (w : World) (hl : ArgR w lv L) (hL : (L.length + 1) * 24 ≤ 140737488355328) :
    Calls Tryd.prog 20 #[lv, .int .i64 gen] w fun e w' => ScanR w w' L gen e := by
  obtain ⟨A, c, rfl, hc, hx⟩ := hl.at_
  have HX := Lib.hid hx; have HL := Lib.hid hl; clear hx hl
  go_enter Tryd.func20, Tryd.ntmps20
  go_wp2
  go_loopw [6, 7] (fun v uv wr => RScanInv w L gen v uv wr) (fun v _ _ => L.length + 1 - lenV v)
  case atStart => exact ⟨[], 0, Nat.le_refl _, Nat.zero_le _, rfl, rfl, Rows.nil _ _, ⟨_, _, rfl⟩, Kp.refl _ _⟩
  case round =>
    obtain ⟨recs, used, hr1, hr2, hsc, rfl, hrows, ⟨Av, cv, rfl⟩, hkw⟩ := hrel
    have HSC := Lib.hid hsc; have HR := Lib.hid hrows; have HKW := Lib.hid hkw; have hwr := hkw.size
    clear hsc hrows hkw
    have hu0 : (0 : Int) ≤ (used : Int) := by omega
    have hu1 : (used : Int) ≤ (L.length : Int) := by omega
    have hu2 : (used : Int) ≤ (c : Int) := by omega
    by_cases hul : used < L.length
    · obtain ⟨g, o, _, _, rfl, _, _⟩ := HX.out used hul
      have hcu : ¬ c = used := by omega
      have ro := rone_any (.slice (some ⟨g, o + used, none⟩) (L.length - used) (c - used)) gen recs.length (L.drop used) wr ((HL.out.no HKW.out).drop used hr2)
      rw [oneS_drop] at ro
      go_wp2_with fail
      refine ro.mono ?_
      clear ro
      rintro e w1 ⟨k1, hr⟩
      cases ho : oneS L gen used recs.length with
      | none =>
        rw [ho] at hr
        simp only at hr
        subst hr
        have HS := Lib.hid (scan_stop HSC.out (by omega) ho); clear ho
        go_wp2
        go_ret2
        exact ⟨_, by rw [HS.out]; rfl, by rw [HS.out]; exact HR.out.no k1, HKW.out.trans k1⟩
      | some dn =>
        obtain ⟨d, n⟩ := dn
        rw [ho] at hr
        simp only at hr
        obtain ⟨Ad, cd, rfl, od⟩ := hr
        have hos := oneS_some ho
        have HS := Lib.hid (scan_go HSC.out (by omega) ho); clear ho
        have OW := Lib.hid (OwnB.mono od hwr); have RW := Lib.hid (HR.out.no k1); have K1 := Lib.hid (HKW.out.trans k1)
        clear od k1
        obtain ⟨hn1, hn2⟩ := hos
        have hbase : w.heap.size ≤ (w1.alloc (.cells #[.slice Ad d.length cd] 26)).heap.size := by have := K1.out.size; simp; omega
        go_wp2_with (at_builtin; refine wpList_appR2 _ rfl (.tmp 26) (.tmp 28) rfl w.heap.size _ recs rfl (RW.out.no ((Kp.refl No _).alloc _)) _ _ _ rfl d rfl (cs_new rfl rfl) (OW.out.alloc _) (by omega) hbase ?_)
        intro A' c' w2 r2 k2
        have K2 : Kp No w w2 := by
          obtain ⟨xs, hoo, _⟩ := (RW.out.no ((Kp.refl No w1).alloc (.cells #[.slice Ad d.length cd] 26)))
          exact kp_own hoo (K1.out.alloc _) k2
        have HR2 := Lib.hid r2; have HK2 := Lib.hid K2; clear r2 k2 K2
        have hus : IntKind.i64.wrap ((used : Int) + (n : Int)) = (used : Int) + (n : Int) := IntWalk.i64_in _ (by omega)
        go_wp2
        go_roundw
        case rel => exact ⟨recs ++ [d], used + n, by simp; omega, hn2, HS.out, by rw [Int.natCast_add], HR2.out, ⟨A', c', by simp⟩, HK2.out⟩
        case measure => simp [lenV]; omega
    · obtain rfl : used = L.length := by omega
      have HS := Lib.hid (scan_stop HSC.out (by omega) (oneS_out (Nat.le_refl _)))
      have hz : L.length - L.length = 0 := by omega
      have ro := fun (A' : Option Addr) (c' : Nat) (W : World) => rone_nil A' c' gen recs.length W
      cases A with
      | none =>
        go_wp2_with fail
        refine (ro _ _ _).mono ?_
        clear ro
        rintro e w1 ⟨rfl, k1⟩
        go_wp2
        go_ret2
        exact ⟨_, by rw [HS.out]; rfl, by rw [HS.out]; exact HR.out.no k1, HKW.out.trans k1⟩
      | some ad =>
        by_cases hcc : c = L.length
        · go_wp2_with fail
          refine (ro _ _ _).mono ?_
          clear ro
          rintro e w1 ⟨rfl, k1⟩
          go_wp2
          go_ret2
          exact ⟨_, by rw [HS.out]; rfl, by rw [HS.out]; exact HR.out.no k1, HKW.out.trans k1⟩
        · go_wp2_with fail
          refine (ro _ _ _).mono ?_
          clear ro
          rintro e w1 ⟨rfl, k1⟩
          go_wp2
          go_ret2
          exact ⟨_, by rw [HS.out]; rfl, by rw [HS.out]; exact HR.out.no k1, HKW.out.trans k1⟩
end Go.Proofs.YthncnkkpfcbkfaaDoor
