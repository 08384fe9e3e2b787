/- Each field, made; those behind the verb (wire). No condition beyond what each theorem states. -/
import Derived.Test.YtbnpdghfbiacaaaMr
import Derived.Test.YtbnpdghfbiacaaaMc
namespace Go.Proofs.Ytbnpdghfbiacaaa
open Go Go.RowKit Go.PlainAid

theorem seq_at : AtOk 30 4 := fun W g => by
  go_enter Try.func30, Try.ntmps30
  go_wp2
  go_ret
  exact ⟨rfl, rfl⟩
theorem low_at : AtOk 32 5 := fun W g => by
  go_enter Try.func32, Try.ntmps32
  go_wp2
  go_ret
  exact ⟨rfl, rfl⟩
theorem verb_at : AtOk 34 6 := fun W g => by
  go_enter Try.func34, Try.ntmps34
  go_wp2
  go_ret
  exact ⟨rfl, rfl⟩
theorem mode_at : AtOk 50 8 := fun W g => by
  go_enter Try.func50, Try.ntmps50
  go_wp2
  go_ret
  exact ⟨rfl, rfl⟩
theorem term_at : AtOk 41 9 := fun W g => by
  go_enter Try.func41, Try.ntmps41
  go_wp2
  go_ret
  exact ⟨rfl, rfl⟩
theorem id_at : AtOk 40 10 := fun W g => by
  go_enter Try.func40, Try.ntmps40
  go_wp2
  go_ret
  exact ⟨rfl, rfl⟩
theorem code_at : AtOk 38 12 := fun W g => by
  go_enter Try.func38, Try.ntmps38
  go_wp2
  go_ret
  exact ⟨rfl, rfl⟩
theorem origin_at : AtOk 45 14 := fun W g => by
  go_enter Try.func45, Try.ntmps45
  go_wp2
  go_ret
  exact ⟨rfl, rfl⟩
theorem num_at : AtOk 47 15 := fun W g => by
  go_enter Try.func47, Try.ntmps47
  go_wp2
  go_ret
  exact ⟨rfl, rfl⟩
theorem boot_num : NumAt 3 Msg.boot (fun m x => { m with boot := x }) := ⟨fun _ _ => rfl, fun _ _ _ => rfl, fun _ _ => rfl, fun m h => h.1 _ (by simp)⟩
theorem seq_num : NumAt 4 Msg.seq (fun m x => { m with seq := x }) := ⟨fun _ _ => rfl, fun _ _ _ => rfl, fun _ _ => rfl, fun m h => h.1 _ (by simp)⟩
theorem low_num : NumAt 5 Msg.low (fun m x => { m with low := x }) := ⟨fun _ _ => rfl, fun _ _ _ => rfl, fun _ _ => rfl, fun m h => h.1 _ (by simp)⟩
theorem verb_num : NumAt 6 Msg.verb (fun m x => { m with verb := x }) := ⟨fun _ _ => rfl, fun _ _ _ => rfl, fun _ _ => rfl, fun m h => h.1 _ (by simp)⟩
theorem mode_num : NumAt 8 Msg.mode (fun m x => { m with mode := x }) := ⟨fun _ _ => rfl, fun _ _ _ => rfl, fun _ _ => rfl, fun m h => h.1 _ (by simp)⟩
theorem term_num : NumAt 9 Msg.term (fun m x => { m with term := x }) := ⟨fun _ _ => rfl, fun _ _ _ => rfl, fun _ _ => rfl, fun m h => h.1 _ (by simp)⟩
theorem id_num : NumAt 10 Msg.id (fun m x => { m with id := x }) := ⟨fun _ _ => rfl, fun _ _ _ => rfl, fun _ _ => rfl, fun m h => h.1 _ (by simp)⟩
theorem code_num : NumAt 12 Msg.code (fun m x => { m with code := x }) := ⟨fun _ _ => rfl, fun _ _ _ => rfl, fun _ _ => rfl, fun m h => h.1 _ (by simp)⟩
theorem origin_num : NumAt 14 Msg.origin (fun m x => { m with origin := x }) := ⟨fun _ _ => rfl, fun _ _ _ => rfl, fun _ _ => rfl, fun m h => h.1 _ (by simp)⟩
theorem number_num : NumAt 15 Msg.number (fun m x => { m with number := x }) := ⟨fun _ _ => rfl, fun _ _ _ => rfl, fun _ _ => rfl, fun m h => h.1 _ (by simp)⟩

theorem mkBoot (W : World) : Calls Try.prog 28 #[.func (.func 29) #[] #[]] W (MkF W fBoot) := counter_any _ 3 _ _ boot_num (enters_of Try.func29 (by kernel_rfl) rfl) boot_at W
theorem mkSeq (W : World) : Calls Try.prog 28 #[.func (.func 30) #[] #[]] W (MkF W fSeq) := counter_any _ 4 _ _ seq_num (enters_of Try.func30 (by kernel_rfl) rfl) seq_at W
theorem mkId (W : World) : Calls Try.prog 28 #[.func (.func 40) #[] #[]] W (MkF W fId) := counter_any _ 10 _ _ id_num (enters_of Try.func40 (by kernel_rfl) rfl) id_at W
theorem mkNumber (W : World) : Calls Try.prog 28 #[.func (.func 47) #[] #[]] W (MkF W fNumber) := counter_any _ 15 _ _ number_num (enters_of Try.func47 (by kernel_rfl) rfl) num_at W
theorem mkLow (W : World) : Calls Try.prog 31 #[.func (.func 32) #[] #[], .func (.func 27) #[] #[]] W (MkF W fLow) :=
  number_any _ 5 _ _ _ low_num (enters_of Try.func32 (by kernel_rfl) rfl) low_at _ _ W ⟨enters_of Try.func27 (by kernel_rfl) rfl, fun W2 _ g m sv hm _ => within_any g m sv W2 hm⟩
theorem mkTerm (W : World) : Calls Try.prog 31 #[.func (.func 41) #[] #[], .func (.func 62) #[] #[]] W (MkF W fTerm) :=
  number_any _ 9 _ _ _ term_num (enters_of Try.func41 (by kernel_rfl) rfl) term_at _ _ W ⟨enters_of Try.func62 (by kernel_rfl) rfl, fun W2 _ g m sv hm _ => legal_any g m sv W2 hm⟩
theorem mkGrant (W : World) : Calls Try.prog 31 #[.func (.func 41) #[] #[], .func (.func 42) #[] #[]] W (MkF W fGrant) :=
  number_any _ 9 _ _ _ term_num (enters_of Try.func41 (by kernel_rfl) rfl) term_at _ _ W ⟨enters_of Try.func42 (by kernel_rfl) rfl, fun W2 _ g m sv hm _ => granted_any g m sv W2 hm⟩
theorem mkOrigin4 (W : World) : Calls Try.prog 31 #[.func (.func 45) #[] #[], .func (.func 46) #[] #[]] W (MkF W fOrigin) :=
  number_any _ 14 _ _ _ origin_num (enters_of Try.func45 (by kernel_rfl) rfl) origin_at _ _ W ⟨enters_of Try.func46 (by kernel_rfl) rfl, fun W2 _ g m sv hm _ => orig4_any g m sv W2 hm⟩
theorem mkOrigin5 (W : World) : Calls Try.prog 31 #[.func (.func 45) #[] #[], .func (.func 48) #[] #[]] W (MkF W fOrigin) :=
  number_any _ 14 _ _ _ origin_num (enters_of Try.func45 (by kernel_rfl) rfl) origin_at _ _ W ⟨enters_of Try.func48 (by kernel_rfl) rfl, fun W2 _ g m sv hm _ => orig5_any g m sv W2 hm⟩
theorem mkVerb (W : World) : Calls Try.prog 33 #[.func (.func 34) #[] #[], .func (.func 35) #[] #[]] W (MkF W fVerb) :=
  castVerb_any _ 6 _ _ verb_num (enters_of Try.func34 (by kernel_rfl) rfl) verb_at _ (fun _ => true) (enters_of Try.func35 (by kernel_rfl) rfl) yes_any W
theorem mkCode (W : World) : Calls Try.prog 37 #[.func (.func 38) #[] #[], .func (.func 39) #[] #[]] W (MkF W fCode) :=
  castErrno_any _ 12 _ _ code_num (enters_of Try.func38 (by kernel_rfl) rfl) code_at _ (fun n => decide (0 ≤ n ∧ n ≤ 99)) (enters_of Try.func39 (by kernel_rfl) rfl) errOk_any W
theorem mkMode (W : World) : Calls Try.prog 49 #[.func (.func 50) #[] #[], .func (.func 51) #[] #[]] W (MkF W fMode) :=
  castMode_any _ 8 _ _ mode_num (enters_of Try.func50 (by kernel_rfl) rfl) mode_at _ (fun n => decide (modeI n)) (enters_of Try.func51 (by kernel_rfl) rfl) isMode_any W

/-- a list of fields, in a row of the call's own -/
def FsAt (w : World) (B : Nat) (v : Value) (L : List Fld) : Prop := ∃ vs : List FV, w.ownsRow B 55 3 v L.length ((vs.map FV.cells).flatten) ∧ vs.length = L.length ∧ ∀ p ∈ vs.zip L, FOk w p.1 p.2
theorem FsAt.stay {w w' : World} {B : Nat} {v : Value} {L : List Fld} {M : Nat → Prop} (h : FsAt w B v L) (hk : Kp M w w') (hm : ∀ g, v.ownBlock = some g → ¬ M g) (hs : Stay w w') : FsAt w' B v L := by
  obtain ⟨vs, h1, h2, h3⟩ := h
  exact ⟨vs, own_kp h1 hk hm, h2, fun p hp => (h3 p hp).stay hs⟩
theorem FsAt.no {w w' : World} {B : Nat} {v : Value} {L : List Fld} (h : FsAt w B v L) (hk : Kp No w w') : FsAt w' B v L := h.stay hk (fun _ _ m => m) (Stay.no hk)
theorem cells_len (vs : List FV) : ((vs.map FV.cells).flatten).length = 3 * vs.length := by
  induction vs with
  | nil => rfl
  | cons a r ih => simp only [List.map_cons, List.flatten_cons, List.length_append, ih, List.length_cons]; simp [FV.cells]; omega
theorem cells_one (vs : List FV) : ∀ u ∈ (vs.map FV.cells).flatten, u.oneCell' = true := by
  intro u hu
  simp only [List.mem_flatten, List.mem_map] at hu
  obtain ⟨l, ⟨v, _, rfl⟩, h⟩ := hu
  simp only [FV.cells, List.mem_cons, List.not_mem_nil, or_false] at h
  rcases h with rfl | rfl | rfl <;> rfl
/-- a row that was built -/
theorem fsAt_new {w : World} {B g n : Nat} {vs : List FV} {L : List Fld} (hb : Bk w g 55 ((vs.map FV.cells).flatten)) (hB : B ≤ g) (hl : vs.length = L.length) (hn : n = L.length) (hm : L.length ≤ 1000) (hf : ∀ p ∈ vs.zip L, FOk w p.1 p.2) : FsAt w B (.slice (some ⟨g, 0, none⟩) n n) L := by
  subst hn
  refine ⟨vs, ⟨by rw [cells_len, hl, Nat.mul_comm], .inr ⟨g, L.length, ((vs.map FV.cells).flatten).toArray, rfl, hB, hb, Nat.le_refl _, by unfold maxLen; omega, by rw [List.size_toArray, cells_len, hl, Nat.mul_comm], ?_⟩⟩, hl, hf⟩
  rw [List.take_of_length_le (by rw [cells_len, hl]; omega)]
end Go.Proofs.Ytbnpdghfbiacaaa
