/- The built-in copy of bytes into a block of the call's own. No condition beyond what each theorem states. -/
import Derived.Test.YthncnkkpfcbkfaaDoorBy
import Derived.Laws.IdiomCopy
namespace Go.Proofs.YthncnkkpfcbkfaaDoor
open Go Go.RowKit

/-- m laid over l from place k on -/
def layB (l : List UInt8) (k : Nat) (m : List UInt8) : List UInt8 := l.take k ++ m ++ l.drop (k + m.length)
theorem layB_length (l : List UInt8) (k : Nat) (m : List UInt8) (h : k + m.length ≤ l.length) : (layB l k m).length = l.length := by simp [layB]; omega
section
variable {P : Program}
theorem run_copyB (w : World) (dT sT ty elem : TypeId) (hu : P.underlying dT = some (.slice elem)) (hsz : (P.info? elem).map (·.size) = some 1)
    (g off dLen dCap : Nat) (A : Option Addr) (sLen sCap : Nat) (cur : List UInt8) (t : TypeId) (hg : Bk w g t (u8s cur)) (m : List UInt8) (hm : m.length = sLen) (hle : sLen ≤ dLen) (hc : Cs w A (u8s m)) (hfit : off + m.length ≤ cur.length) :
    ∃ w', (Builtin.copy_ #[dT, sT] ty #[.slice (some ⟨g, off, none⟩) dLen dCap, .slice A sLen sCap]).run P w = .ok (goInt (sLen : Int)) w' ∧ Bk w' g t (u8s (layB cur off m)) ∧ Kp (One g) w w' := by
  by_cases h0 : m = []
  · subst h0
    have h00 : sLen = 0 := by simpa using hm.symm
    subst h00
    refine ⟨w, run_copy_none (P := P) w dT sT ty elem _ A dLen dCap 0 sCap hu hsz (by simp), ?_, Kp.refl _ _⟩
    simpa [layB] using hg
  · obtain ⟨g', o', rfl, hr⟩ := hc (by intro e; apply h0; have := congrArg List.length e; simp at this; exact this)
    have hml : (u8s m).length = Nat.min sLen dLen := by rw [u8s_length, hm]; exact (Nat.min_eq_left hle).symm
    have ht := hg.there off (u8s m).length (by simpa using hfit)
    refine ⟨_, ?_, ?_, Kp.sets (u8s m) off (Kp.refl (One g) w) (.inl (One.self g))⟩
    · have hrun := run_copy_cells (P := P) w dT sT ty elem g off dLen dCap ⟨g', o', none⟩ sLen sCap (u8s m) hu hsz hml (fun j v hv => by rw [Addr.add_mid]; exact hr j v hv) (fun j hj => (ht j hj).1) (fun j hj => (ht j hj).2) (u8s_one m)
      rw [hrun, u8s_length, hm]
    · have := Bk.sets (u8s m) off hg (by simpa using hfit)
      rw [u8s_length, ← u8s_take, ← u8s_drop, ← u8s_append, ← u8s_append] at this
      exact this
theorem wp_copyB (w : World) {o : Oper} {a : Act} {K : Act → World → Prop} {Q : Exit → Act → World → Prop} (d s : Operand) (dT sT : TypeId)
    (ho : o.op = .call { callee := .builtin .copy, args := #[d, s], argTypes := #[dT, sT] }) (elem : TypeId) (hu : P.underlying dT = some (.slice elem)) (hsz : (P.info? elem).map (·.size) = some 1)
    (g off dLen dCap : Nat) (A : Option Addr) (sLen sCap : Nat) (hd : a.eval d = .slice (some ⟨g, off, none⟩) dLen dCap) (hs : a.eval s = .slice A sLen sCap)
    (cur : List UInt8) (t : TypeId) (hg : Bk w g t (u8s cur)) (m : List UInt8) (hm : m.length = sLen) (hle : sLen ≤ dLen) (hc : Cs w A (u8s m)) (hfit : off + m.length ≤ cur.length)
    (h : ∀ w', Bk w' g t (u8s (layB cur off m)) → Kp (One g) w w' → K (a.put o.dst (.int .i64 (sLen : Int))) w') : o.wp P a w K Q := by
  obtain ⟨w', hr, h1, h2⟩ := run_copyB (P := P) w dT sT o.type elem hu hsz g off dLen dCap A sLen sCap cur t hg m hm hle hc hfit
  unfold Oper.wp execOp
  simp only [ho, resolve, invoke, builtin, Sem.run_bind, Sem.run_pure, Result.andThen_ok, List.map_toArray, List.map_cons, List.map_nil, hd, hs, hr]
  exact h w' h1 h2
theorem wpList_copyB (w : World) {ops : Array Oper} {rest : List Oper} {o : Oper} {a : Act} {Q : Exit → Act → World → Prop} (hgd : o.guard = none) (d s : Operand) (dT sT : TypeId)
    (ho : o.op = .call { callee := .builtin .copy, args := #[d, s], argTypes := #[dT, sT] }) (elem : TypeId) (hu : P.underlying dT = some (.slice elem)) (hsz : (P.info? elem).map (·.size) = some 1)
    (g off dLen dCap : Nat) (A : Option Addr) (sLen sCap : Nat) (hd : a.eval d = .slice (some ⟨g, off, none⟩) dLen dCap) (hs : a.eval s = .slice A sLen sCap)
    (cur : List UInt8) (t : TypeId) (hg : Bk w g t (u8s cur)) (m : List UInt8) (hm : m.length = sLen) (hle : sLen ≤ dLen) (hc : Cs w A (u8s m)) (hfit : off + m.length ≤ cur.length)
    (h : ∀ w', Bk w' g t (u8s (layB cur off m)) → Kp (One g) w w' → wpList P ops Q rest (a.put o.dst (.int .i64 (sLen : Int))) w') : wpList P ops Q (o :: rest) a w :=
  wpList_plain hgd fun _ hK => wp_copyB w d s dT sT ho elem hu hsz g off dLen dCap A sLen sCap hd hs cur t hg m hm hle hc hfit fun w' h1 h2 => hK _ _ (h w' h1 h2)
/-- the same in a region that draws its order -/
theorem step_copyB (w : World) {ops : Array Oper} {o : Oper} {a : Act} {K : Act → World → Prop} {Q : Exit → Act → World → Prop} {E : Prop} (hgd : o.guard = none) (d s : Operand) (dT sT : TypeId)
    (ho : o.op = .call { callee := .builtin .copy, args := #[d, s], argTypes := #[dT, sT] }) (elem : TypeId) (hu : P.underlying dT = some (.slice elem)) (hsz : (P.info? elem).map (·.size) = some 1)
    (g off dLen dCap : Nat) (A : Option Addr) (sLen sCap : Nat) (hd : a.eval d = .slice (some ⟨g, off, none⟩) dLen dCap) (hs : a.eval s = .slice A sLen sCap)
    (cur : List UInt8) (t : TypeId) (hg : Bk w g t (u8s cur)) (m : List UInt8) (hm : m.length = sLen) (hle : sLen ≤ dLen) (hc : Cs w A (u8s m)) (hfit : off + m.length ≤ cur.length)
    (h : ∀ w', Bk w' g t (u8s (layB cur off m)) → Kp (One g) w w' → K (a.put o.dst (.int .i64 (sLen : Int))) w') : if Region.wanted o (yielded ops a.tmps) = true then Oper.wp P o a w K Q else E := by
  have hw : Region.wanted o (yielded ops a.tmps) = true := by simp [Region.wanted, hgd]
  rw [if_pos hw]
  exact wp_copyB w d s dT sT ho elem hu hsz g off dLen dCap A sLen sCap hd hs cur t hg m hm hle hc hfit h
end
theorem Tryd.sizeByte : (Tryd.prog.info? 5).map (·.size) = some 1 := by kernel_rfl
end Go.Proofs.YthncnkkpfcbkfaaDoor
