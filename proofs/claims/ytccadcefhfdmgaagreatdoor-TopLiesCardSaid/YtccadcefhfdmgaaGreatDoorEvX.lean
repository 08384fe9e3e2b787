/- World.written: some number, in whatever order the sites come: the walk. No condition beyond what the theorem states. -/
import Derived.Test.YtccadcefhfdmgaaGreatDoorEvW
namespace Go.Proofs.YtccadcefhfdmgaaGreatDoor
open Go Go.RowKit Go.Maps
theorem siteMap : Tryz.prog.underlying 45 = some (.map 3 53) := by kernel_rfl
set_option maxHeartbeats 1000000 in
theorem written_any (W : World) (wb wo mb : Nat) (es : Array MapEntry) (c : Nat) (h0 : W.cell? ⟨wb, wo + 3, none⟩ = some (.map (some mb))) (hs : SitesAt W mb es c) :
    Calls Tryz.prog 19 #[.pointer (some ⟨wb, wo, none⟩)] W fun e w' => (∃ n, e = .returned (.int .i64 n)) ∧ Below W.heap.size W w' := by
  have HS := Lib.hid hs
  have hlt : mb < W.heap.size := (Array.getElem?_eq_some_iff.1 hs.map).1
  have HM := Lib.hid hs.map
  clear hs
  go_enter Tryz.func19, Tryz.ntmps19
  go_wp2_with (first
    | (at_range; refine wp_rangeU _ rfl _ _ rfl _ _ siteMap mb es c rfl HM.out ?_; intro w0 hw0)
    | go_in)
  have B0 : Below W.heap.size W w0 := by rw [hw0]; exact (Below.refl _ W).alloc (Nat.le_refl _) _
  have R0 : w0.heap[W.heap.size]? = some (.mapIter (some mb) c #[] c) := by rw [hw0]; exact World.alloc_heap_new _ _
  go_frame
  go_loopw [3] (fun v wr => ∃ (seen : Array Nat) (n : Int), v = .int .i64 n ∧ wr.heap[W.heap.size]? = some (.mapIter (some mb) c seen c) ∧ Below W.heap.size W wr) (fun _ wr => unseenU es (seenU wr W.heap.size))
  case atStart => exact ⟨_, _, rfl, R0, B0⟩
  case round =>
    obtain ⟨seen, n, rfl, hr, hB⟩ := hrel
    have HB := Lib.hid hB
    have hm2 : wr.heap[mb]? = some (.map es c) := (hB.block mb hlt).trans HM.out
    have HR := Lib.hid hr
    have HM2 := Lib.hid hm2
    have hne : W.heap.size ≠ mb := by omega
    clear hB hr hm2
    go_wp2_with (first
      | (at_next; refine wp_nextU _ rfl _ rfl rfl hne HR.out HM2.out HS.out.born ?_ ?_)
      | go_in)
    · intro w1 h1 h2
      go_wp2
      go_ret
      exact ⟨⟨_, rfl⟩, HB.out.trans (h2.mono HB.out.size)⟩
    · intro u v e e1 w1 h1 h2 h3 h4 h5 h6 h7 hen
      obtain ⟨sb, so, db, dO, k, hv, hc1, hc2⟩ := HS.out.site e1 h3
      rw [hv] at hen
      have hlr : W.heap.size < wr.heap.size := (Array.getElem?_eq_some_iff.1 HR.out).1
      have B1 : Below W.heap.size W w1 := HB.out.trans ⟨h5, h6, h7, by rw [h4]; simp, fun j hj => by rw [h4, Array.getElem?_setIfInBounds_ne (by omega)]⟩
      have lt1 : sb < W.heap.size := World.block_lt_of_cell? _ _ hc1
      have lt2 : db < W.heap.size := World.block_lt_of_cell? _ _ hc2
      have d1 : w1.cell? ⟨sb, so, none⟩ = some (.pointer (some ⟨db, dO, none⟩)) := (B1.cell lt1).trans hc1
      have d2 : w1.cell? ⟨db, dO + 1, none⟩ = some (.int .i64 k) := (B1.cell lt2).trans hc2
      have R1 := Lib.hid (show w1.heap[W.heap.size]? = some (.mapIter (some mb) c (seen.push e.born) c) by rw [h4]; simp [hlr])
      have H1 := Lib.hid h1; have H2 := Lib.hid h2; have HB1 := Lib.hid B1
      clear h1 h2 h3 h4 h5 h6 h7 hc1 hc2 B1 hv
      go_wp2_with go_in
      refine ⟨⟨_, _, rfl, R1.out, HB1.out⟩, ?_⟩
      have e1 : seenU w1 W.heap.size = seen.push e.born := by unfold seenU; rw [R1.out]
      have e2 : seenU wr W.heap.size = seen := by unfold seenU; rw [HR.out]
      rw [e1, e2]
      exact unseenU_lt H1.out (by simpa using H2.out)
end Go.Proofs.YtccadcefhfdmgaaGreatDoor
