/- Messages as bytes, in plain words (wire): bodies, and how they are taken up. No condition beyond what each theorem states. -/
import Derived.Test.YtbnpdghfbiacaaaNu
namespace Go.Proofs.Ytbnpdghfbiacaaa
open Go

/-- the bytes that are left, and the error -/
abbrev Rd := List UInt8 × Int
def rdNum (s : Rd) : Nat × Rd := if s.2 ≠ 0 then (0, s) else match takeN 0 s.1 with
  | (n, k, e) => if e = 0 then (n, (s.1.drop k, 0)) else (0, (s.1, e))
def rdText (most : Nat) (s : Rd) : List UInt8 × Rd := if s.2 ≠ 0 then ([], s) else match takeN 0 s.1 with
  | (n, k, e) => if e ≠ 0 then ([], (s.1, e)) else if most < n then ([], (s.1, 21)) else if s.1.length - k < n then ([], (s.1, 20)) else ((s.1.drop k).take n, (s.1.drop (k + n), 0))
def rdNums : Nat → Rd → List Nat × Rd
  | 0, s => ([], s)
  | j + 1, s => ((rdNum s).1 :: (rdNums j (rdNum s).2).1, (rdNums j (rdNum s).2).2)
def rdCnts (s : Rd) : List Nat × Rd := rdNums (min (rdNum s).1 5) (rdNum s).2
def textS (t : List UInt8) : List UInt8 := numS t.length ++ t
def numsS (l : List Nat) : List UInt8 := (l.map numS).flatten
def cntsS (l : List Nat) : List UInt8 := numS l.length ++ numsS l
theorem rdNum_num (n : Nat) (r : List UInt8) (h : n < 9223372036854775808) : rdNum (numS n ++ r, 0) = (n, (r, 0)) := by
  simp [rdNum, take_num n r h]
theorem rdText_text (t r : List UInt8) (h : t.length ≤ 200) : rdText 200 (textS t ++ r, 0) = (t, (r, 0)) := by
  have e : textS t ++ r = numS t.length ++ (t ++ r) := by simp [textS]
  simp only [rdText, e]
  rw [take_num t.length (t ++ r) (by omega)]
  simp only [ne_eq, not_true_eq_false, if_false]
  rw [if_neg (by omega), if_neg (by simp), List.drop_left' rfl, List.take_left' rfl]
  congr 2
  rw [← List.drop_drop, List.drop_left' rfl, List.drop_left' rfl]
theorem rdNums_nums : ∀ (l : List Nat) (r : List UInt8), (∀ n ∈ l, n < 9223372036854775808) → rdNums l.length (numsS l ++ r, 0) = (l, (r, 0))
  | [], r, _ => by simp [rdNums, numsS]
  | n :: l, r, h => by
    have e : numsS (n :: l) ++ r = numS n ++ (numsS l ++ r) := by simp [numsS]
    simp only [List.length_cons, rdNums, e]
    rw [rdNum_num n _ (h n (List.mem_cons_self ..))]
    simp only
    rw [rdNums_nums l r (fun x hx => h x (List.mem_cons_of_mem _ hx))]
theorem rdCnts_cnts (l : List Nat) (r : List UInt8) (hl : l.length ≤ 5) (h : ∀ n ∈ l, n < 9223372036854775808) : rdCnts (cntsS l ++ r, 0) = (l, (r, 0)) := by
  have e : cntsS l ++ r = numS l.length ++ (numsS l ++ r) := by simp [cntsS]
  simp only [rdCnts, e]
  rw [rdNum_num l.length _ (by omega)]
  simp only
  rw [Nat.min_eq_left hl, rdNums_nums l r h]

/-- a message -/
structure Msg where
  kind : Int := 0
  from_ : Int := 0
  dest : Int := 0
  boot : Int := 0
  seq : Int := 0
  low : Int := 0
  verb : Int := 0
  path : List UInt8 := []
  mode : Int := 0
  term : Int := 0
  id : Int := 0
  fresh : Bool := false
  code : Int := 0
  stamp : List Int := []
  origin : Int := 0
  number : Int := 0
deriving DecidableEq
/-- the message with nothing but what its kind uses -/
def usedS (m : Msg) : Msg :=
  if m.kind = 1 then { kind := m.kind, from_ := m.from_, dest := m.dest, boot := m.boot, seq := m.seq, low := m.low, verb := m.verb, path := (if m.verb = 1 then m.path else []), mode := (if m.verb = 1 then m.mode else 0), id := (if m.verb = 1 then 0 else m.id), term := (if m.verb = 3 then 0 else m.term), fresh := (if m.verb = 2 then m.fresh else false) }
  else if m.kind = 2 then { kind := m.kind, from_ := m.from_, dest := m.dest, boot := m.boot, seq := m.seq, code := m.code, id := (if m.code = 0 then m.id else 0), term := (if m.code = 0 then m.term else 0), stamp := (if m.code = 0 then m.stamp else []) }
  else if m.kind = 3 then { kind := m.kind, from_ := m.from_, dest := m.dest, id := m.id, origin := m.origin, number := m.number, path := m.path }
  else if m.kind = 4 then { kind := m.kind, from_ := m.from_, dest := m.dest, id := m.id, origin := m.origin, number := m.number }
  else if m.kind = 5 then { kind := m.kind, from_ := m.from_, dest := m.dest, path := m.path, mode := m.mode, stamp := m.stamp }
  else { kind := m.kind, from_ := m.from_, dest := m.dest }
def nS (x : Int) : List UInt8 := numS x.toNat
def cS (l : List Int) : List UInt8 := cntsS (l.map Int.toNat)
/-- the bytes ahead of the checksum -/
def bodyS (m : Msg) : List UInt8 := nS m.kind ++ (nS m.from_ ++ (nS m.dest ++
  (if m.kind = 1 then nS m.boot ++ (nS m.seq ++ (nS m.low ++ (nS m.verb ++
      (if m.verb = 1 then textS m.path ++ (nS m.mode ++ nS m.term) else if m.verb = 2 then nS m.id ++ (nS m.term ++ nS (if m.fresh then 1 else 0)) else if m.verb = 3 then nS m.id else []))))
  else if m.kind = 2 then nS m.boot ++ (nS m.seq ++ (nS m.code ++ (if m.code = 0 then nS m.id ++ (nS m.term ++ cS m.stamp) else [])))
  else if m.kind = 3 then nS m.id ++ (textS m.path ++ (nS m.origin ++ nS m.number))
  else if m.kind = 4 then nS m.id ++ (nS m.origin ++ nS m.number)
  else if m.kind = 5 then textS m.path ++ (nS m.mode ++ cS m.stamp)
  else [])))
/-- the message that is taken up from bytes, loosely -/
def takeMsg (b : List UInt8) : Msg :=
  let a0 := rdNum (b, 0)
  let a1 := rdNum a0.2
  let a2 := rdNum a1.2
  if a0.1 = 1 then
    let a3 := rdNum a2.2
    let a4 := rdNum a3.2
    let a5 := rdNum a4.2
    let a6 := rdNum a5.2
    if a6.1 = 1 then
      let a7 := rdText 200 a6.2
      let a8 := rdNum a7.2
      let a9 := rdNum a8.2
      { kind := a0.1, from_ := a1.1, dest := a2.1, boot := a3.1, seq := a4.1, low := a5.1, verb := a6.1, path := a7.1, mode := a8.1, term := a9.1 }
    else if a6.1 = 2 then
      let a7 := rdNum a6.2
      let a8 := rdNum a7.2
      let a9 := rdNum a8.2
      { kind := a0.1, from_ := a1.1, dest := a2.1, boot := a3.1, seq := a4.1, low := a5.1, verb := a6.1, id := a7.1, term := a8.1, fresh := decide (a9.1 = 1) }
    else if a6.1 = 3 then
      let a7 := rdNum a6.2
      { kind := a0.1, from_ := a1.1, dest := a2.1, boot := a3.1, seq := a4.1, low := a5.1, verb := a6.1, id := a7.1 }
    else { kind := a0.1, from_ := a1.1, dest := a2.1, boot := a3.1, seq := a4.1, low := a5.1, verb := a6.1 }
  else if a0.1 = 2 then
    let a3 := rdNum a2.2
    let a4 := rdNum a3.2
    let a5 := rdNum a4.2
    if a5.1 = 0 then
      let a6 := rdNum a5.2
      let a7 := rdNum a6.2
      let a8 := rdCnts a7.2
      { kind := a0.1, from_ := a1.1, dest := a2.1, boot := a3.1, seq := a4.1, code := a5.1, id := a6.1, term := a7.1, stamp := a8.1.map Int.ofNat }
    else { kind := a0.1, from_ := a1.1, dest := a2.1, boot := a3.1, seq := a4.1, code := a5.1 }
  else if a0.1 = 3 then
    let a3 := rdNum a2.2
    let a4 := rdText 200 a3.2
    let a5 := rdNum a4.2
    let a6 := rdNum a5.2
    { kind := a0.1, from_ := a1.1, dest := a2.1, id := a3.1, path := a4.1, origin := a5.1, number := a6.1 }
  else if a0.1 = 4 then
    let a3 := rdNum a2.2
    let a4 := rdNum a3.2
    let a5 := rdNum a4.2
    { kind := a0.1, from_ := a1.1, dest := a2.1, id := a3.1, origin := a4.1, number := a5.1 }
  else if a0.1 = 5 then
    let a3 := rdText 200 a2.2
    let a4 := rdNum a3.2
    let a5 := rdCnts a4.2
    { kind := a0.1, from_ := a1.1, dest := a2.1, path := a3.1, mode := a4.1, stamp := a5.1.map Int.ofNat }
  else { kind := a0.1, from_ := a1.1, dest := a2.1 }

theorem rd_n (x : Int) (r : List UInt8) (h0 : 0 ≤ x) (h : x < 9223372036854775808) : rdNum (nS x ++ r, 0) = (x.toNat, (r, 0)) := rdNum_num x.toNat r (by omega)
theorem rd_t (t r : List UInt8) (h : t.length ≤ 200) : rdText 200 (textS t ++ r, 0) = (t, (r, 0)) := rdText_text t r h
theorem rd_c (l : List Int) (r : List UInt8) (hl : l.length ≤ 5) (h : ∀ x ∈ l, 0 ≤ x ∧ x < 9223372036854775808) : rdCnts (cS l ++ r, 0) = (l.map Int.toNat, (r, 0)) :=
  rdCnts_cnts (l.map Int.toNat) r (by simpa using hl) (by
    intro n hn
    obtain ⟨x, hx, rfl⟩ := List.mem_map.1 hn
    have := h x hx
    omega)
theorem back_c (l : List Int) (h : ∀ x ∈ l, 0 ≤ x ∧ x < 9223372036854775808) : (l.map Int.toNat).map Int.ofNat = l := by
  rw [List.map_map]
  conv => rhs; rw [← List.map_id l]
  refine List.map_congr_left fun x hx => ?_
  have := h x hx
  simp only [Function.comp, id, Int.ofNat_eq_natCast]
  omega
/-- what a body needs to be taken up again: all its numbers are numbers, its texts and lists are short -/
structure Fit (m : Msg) : Prop where
  kind : 0 ≤ m.kind ∧ m.kind < 9223372036854775808
  from_ : 0 ≤ m.from_ ∧ m.from_ < 9223372036854775808
  dest : 0 ≤ m.dest ∧ m.dest < 9223372036854775808
  boot : 0 ≤ m.boot ∧ m.boot < 9223372036854775808
  seq : 0 ≤ m.seq ∧ m.seq < 9223372036854775808
  low : 0 ≤ m.low ∧ m.low < 9223372036854775808
  verb : 0 ≤ m.verb ∧ m.verb < 9223372036854775808
  path : m.path.length ≤ 200
  mode : 0 ≤ m.mode ∧ m.mode < 9223372036854775808
  term : 0 ≤ m.term ∧ m.term < 9223372036854775808
  id : 0 ≤ m.id ∧ m.id < 9223372036854775808
  code : 0 ≤ m.code ∧ m.code < 9223372036854775808
  slen : m.stamp.length ≤ 5
  stamp : ∀ x ∈ m.stamp, 0 ≤ x ∧ x < 9223372036854775808
  origin : 0 ≤ m.origin ∧ m.origin < 9223372036854775808
  number : 0 ≤ m.number ∧ m.number < 9223372036854775808
theorem tn {x : Int} (h : 0 ≤ x ∧ x < 9223372036854775808) : ((x.toNat : Nat) : Int) = x := by omega
theorem mx {x : Int} (h : 0 ≤ x ∧ x < 9223372036854775808) : max x 0 = x := by omega
theorem tk {x : Int} (h : 0 ≤ x ∧ x < 9223372036854775808) (k : Nat) : x.toNat = k ↔ x = (k : Int) := by omega
theorem take_body (m : Msg) (f : Fit m) (r : List UInt8) : takeMsg (bodyS m ++ r) = if m.kind = 1 ∧ m.verb ≠ 1 ∧ m.verb ≠ 2 ∧ m.verb ≠ 3 then { kind := m.kind, from_ := m.from_, dest := m.dest, boot := m.boot, seq := m.seq, low := m.low, verb := m.verb } else usedS m := by
  have hk := f.kind; have hf := f.from_; have ht := f.dest; have hb := f.boot; have hs := f.seq; have hl := f.low; have hv := f.verb; have hm := f.mode; have hte := f.term; have hi := f.id; have hc := f.code; have ho := f.origin; have hn := f.number
  have M := fun x (h : 0 ≤ x ∧ x < 9223372036854775808) => mx h
  have m1 := M _ hk; have m2 := M _ hf; have m3 := M _ ht; have m4 := M _ hb; have m5 := M _ hs; have m6 := M _ hl; have m7 := M _ hv; have m8 := M _ hm; have m9 := M _ hte; have m10 := M _ hi; have m11 := M _ hc; have m12 := M _ ho; have m13 := M _ hn
  clear M
  by_cases k1 : m.kind = 1
  · by_cases v1 : m.verb = 1
    · simp [takeMsg, bodyS, usedS, k1, v1, rd_n, List.append_assoc, hf, ht, hb, hs, hl, hm, hte, rd_t _ _ f.path, m2, m3, m4, m5, m6, m8, m9]
    · by_cases v2 : m.verb = 2
      · cases hfr : m.fresh <;> simp [takeMsg, bodyS, usedS, k1, v2, rd_n, List.append_assoc, hf, ht, hb, hs, hl, hi, hte, hfr, m2, m3, m4, m5, m6, m9, m10]
      · by_cases v3 : m.verb = 3
        · simp [takeMsg, bodyS, usedS, k1, v3, rd_n, List.append_assoc, hf, ht, hb, hs, hl, hi, m2, m3, m4, m5, m6, m10]
        · have e1 : ¬ m.verb.toNat = 1 := by omega
          have e2 : ¬ m.verb.toNat = 2 := by omega
          have e3 : ¬ m.verb.toNat = 3 := by omega
          simp [takeMsg, bodyS, k1, v1, v2, v3, rd_n, List.append_assoc, hf, ht, hb, hs, hl, hv, m2, m3, m4, m5, m6, m7, e1, e2, e3]
  · have e1 : ¬ m.kind.toNat = 1 := by omega
    by_cases k2 : m.kind = 2
    · by_cases c0 : m.code = 0
      · simp [takeMsg, bodyS, usedS, k2, c0, rd_n, List.append_assoc, rd_c _ _ f.slen f.stamp, hf, ht, hb, hs, hi, hte, m2, m3, m4, m5, m9, m10]
        simpa using back_c _ f.stamp
      · have e0 : ¬ m.code.toNat = 0 := by omega
        simp [takeMsg, bodyS, usedS, k2, c0, e0, rd_n, List.append_assoc, hf, ht, hb, hs, hc, m2, m3, m4, m5, m11]
    · have e2 : ¬ m.kind.toNat = 2 := by omega
      by_cases k3 : m.kind = 3
      · simp [takeMsg, bodyS, usedS, k3, rd_n, List.append_assoc, hf, ht, hi, ho, hn, rd_t _ _ f.path, m2, m3, m10, m12, m13]
      · have e3 : ¬ m.kind.toNat = 3 := by omega
        by_cases k4 : m.kind = 4
        · simp [takeMsg, bodyS, usedS, k4, rd_n, List.append_assoc, hf, ht, hi, ho, hn, m2, m3, m10, m12, m13]
        · have e4 : ¬ m.kind.toNat = 4 := by omega
          by_cases k5 : m.kind = 5
          · simp [takeMsg, bodyS, usedS, k5, rd_n, List.append_assoc, rd_c _ _ f.slen f.stamp, hf, ht, hm, rd_t _ _ f.path, m2, m3, m8]
            simpa using back_c _ f.stamp
          · have e5 : ¬ m.kind.toNat = 5 := by omega
            simp [takeMsg, bodyS, usedS, k1, k2, k3, k4, k5, e1, e2, e3, e4, e5, rd_n, List.append_assoc, hf, ht, hk, m1, m2, m3]
end Go.Proofs.Ytbnpdghfbiacaaa
