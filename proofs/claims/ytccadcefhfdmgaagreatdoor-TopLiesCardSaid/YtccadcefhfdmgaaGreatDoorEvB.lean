/- The evaluator: regions, code, functions. No condition beyond what each theorem states. -/
import Derived.Test.YtccadcefhfdmgaaGreatDoorEvA
noncomputable section
namespace Go.Proofs.YtccadcefhfdmgaaGreatDoor.Ev
open Go

section
variable {β : Type}
def Out.onNorm (o : Out) (f : A → List ADef → H → Out) : Out := o.on .no f (fun i a ds h => .exit i a ds h) (fun i a ds h => .goto i a ds h) (fun a ds h => .ret a ds h) fun v a ds h => .pan v a ds h
def nilD (ds : List ADef) (d x : β) : β := lcase ds x fun _ _ => d
end

def cntL (c : Nat) (l : List Nat) : Nat → Nat := lrec l (fun n => n) fun a _ ih n => cnd (Nat.beq a c) (ih (Nat.succ n)) (ih n)
def fndL (c : Nat) (l : List Nat) : Nat → Int := lrec l (fun _ => .negSucc 0) fun a _ ih n => cnd (Nat.beq a c) (.ofNat n) (ih (Nat.succ n))
def two (args : List AV) (f : AV → AV → Option AV) : Option AV := lcase args none fun a l => lcase l none fun b l => lcase l (f a b) fun _ _ => none
def eCnt (args : List AV) : Option AV := two args fun s c => s.onStr none fun s => c.onInt none fun k n => cnd (eqK k .u8) (onNat n none fun c => cnd (Nat.ble c 255) (rN (cntL c s 0)) none) none
def eIdx (args : List AV) : Option AV := two args fun s c => s.onStr none fun s => c.onInt none fun k n => cnd (eqK k .u8) (onNat n none fun c => cnd (Nat.ble c 255) (rI .i64 (fndL c s 0)) none) none
def eNone (_ : List AV) : Option AV := none
/-- a function without a body: what is known of it; of others: none -/
def extA (P : Program) (f : Nat) : Option (List AV → Option AV) :=
  match P.funcs[f]? with
  | some fn => (match fn.body with
    | some _ => cond (fn.name == "runtime.NumGoroutine") (some eNone) none
    | none => some (cond ((Extern.findNext fn).isNone && !(fn.name == "runtime.NumGoroutine")) (cond (fn.name == "internal/bytealg.CountString") eCnt (cond (fn.name == "internal/bytealg.IndexByteString") eIdx eNone)) eNone))
  | none => some eNone

/-! calls by number -/
def eExt (e : List AV → Option AV) (_ : S) (args : List AV) (h : H) : RC := onO (e args) .no fun v => .ret v h
def eCall (f : Nat) (s : S) (args : List AV) (h : H) : RC := s.call f args h
def callB (P : Program) (f : Nat) : Bx (S → List AV → H → RC) := match extA P f with
  | some e => .mk (eExt e)
  | none => .mk (eCall f)
def callN (P : Program) (f : Nat) (s : S) (args : List AV) (h : H) : RC := onB (callB P f) fun g => g s args h

/-- a call of a function with a body -/
def callE (P : Program) (f : Nat) (s : S) (args : List AV) (h : H) : RC := onO (extA P f) (s.call f args h) fun _ => .no

/-! rounds of a loop over a function -/
def setArgs (ps : List Nat) : List AV → A → Option A := lrec ps (fun m a => lcase m (some a) fun _ _ => none) fun t _ ih m a => lcase m none fun v m => onB (setS t) fun s => ih m (s v a)
def isReady (s : LoopState) : Bool := match s with | .ready => true | _ => false
def isBusy (s : LoopState) : Bool := match s with | .busy => true | _ => false
def finR (l : Nat) (st : LoopState) (pe : Option Code) (h : H) : RC := onLoop (h.get l) .no fun _ _ fn tm ps asg body df =>
    .ret (.bool (onO pe true fun _ => false)) (h.set l (.loop st pe fn tm ps asg body df))
def roundEnd (l : Nat) (o : Out) : RC := o.on .no (fun _ ds h => nilD ds .no (finR l .ready none h)) (fun i _ ds h => nilD ds .no (finR l .done (some (.exit i)) h))
  (fun i _ ds h => nilD ds .no (finR l .done (some (.goto i)) h)) (fun _ ds h => nilD ds .no (finR l .done (some .ret) h)) fun _ _ _ _ => .no
def roundA (cc : Nat → Code → Bx CF) (l : Nat) (s : S) (args : List AV) (h : H) : RC :=
  onLoop (h.get l) .no fun st pe fn tm ps asg body _ => cnd (isReady st) (onO pe
    (onO (setArgs ps args tm) .no fun a => onB (cc fn asg) fun f => (f s a [] h).on .no (fun a ds h => nilD ds .no
      (onLoop (h.get l) .no fun st pe fn' tm ps asg' body' df => cnd (isReady st)
          (onB (cc fn body) fun f => roundEnd l (f s a [] (h.set l (.loop .busy pe fn' tm ps asg' body' df)))) .no)) (fun _ _ _ _ => .no) (fun _ _ _ _ => .no) (fun _ _ _ => .no) fun _ _ _ _ => .no) fun _ => .no) .no

/-! regions in order -/
def idxO (t : Nat) : List (Option Nat) → Nat → Option Nat
  | [], _ => none
  | none :: l, k => idxO t l (Nat.succ k)
  | some u :: l, k => cnd (Nat.beq u t) (some k) (idxO t l (Nat.succ k))
def memW (W : Tr Bool) (t : Nat) : Bool := onO (Tr.get (pos t) W) false fun b => b
/-- where an operand is found: among the values of this region, in the frame -/
def look (W : Tr Bool) : List PE → Nat → Nat → Bx Od
  | [], t, _ => cnd (memW W t) (odS t) (odK bad)
  | .val d :: l, t, k => match d with
    | none => look W l t (Nat.succ k)
    | some u => cnd (Nat.beq u t) (odE k) (look W l t (Nat.succ k))
  | .ali u x :: l, t, k => cnd (Nat.beq u t) (match x with
    | .tmp v => look W l v k
    | .const v => odK ((toA v).getD bad)
    | .global _ => odK bad
    | .func f => odK (.fn f [] [])) (look W l t k)
def cd1 (W : Tr Bool) (pre : List PE) (x : Operand) : Bx Od := match x with
  | .tmp t => look W pre t 0
  | .const v => odK ((toA v).getD bad)
  | .global _ => odK bad
  | .func f => odK (.fn f [] [])
def putB (W : Tr Bool) (d : Option Nat) : Bx (AV → A → A) := match d with
  | none => .mk fun _ a => a
  | some t => cnd (memW W t) (setS t) (.mk fun _ a => a)
def ltT (nt : Nat) : Option Nat → Bool
  | none => true
  | some t => Nat.ble (Nat.succ t) nt
/-- a guard: the slot that is looked at, and the word that is wanted -/
def cGd (ops : Array Oper) (cd : Operand → Bx Od) : Option (Nat × Bool) → Option (Option (Od × Bool))
  | none => some none
  | some (j, w) => match (ops[j]?).bind (·.dst) with
    | some t => onB (cd (.tmp t)) fun x => some (some (x, w))
    | none => none
def rVal (f : List AV → A → H → Option AV) (_ : S) (e : List AV) (a : A) (ds : List ADef) (h : H) (k : KF) : Out := onO (f e a h) .no fun v => k v ds h
def rNew (f : List AV → A → H → Nat → Option (AV × AO)) (_ : S) (e : List AV) (a : A) (ds : List ADef) (h : H) (k : KF) : Out := onO (f e a h h.n) .no fun x => onP x fun v o => k v ds (h.new o)
def rGho (f : List AV → A → H → Nat → Option (AV × Bool)) (_ : S) (e : List AV) (a : A) (ds : List ADef) (h : H) (k : KF) : Out := onO (f e a h h.n) .no fun x => onP x fun v g => cnd g (k v ds (h.skip 1)) (k v ds h)
def rChg (f : List AV → A → H → Option (AV × H)) (_ : S) (e : List AV) (a : A) (ds : List ADef) (h : H) (k : KF) : Out := onO (f e a h) .no fun x => onP x fun v h => k v ds h
def fin (a : A) (ds : List ADef) (k : KF) (r : RC) : Out := r.on .no (fun v h => .pan v a ds h) fun v h => k v ds h
def rCall (P : Program) (f : List AV → A → H → Option (Nat × List AV)) (s : S) (e : List AV) (a : A) (ds : List ADef) (h : H) (k : KF) : Out := onO (f e a h) .no fun x => onP x fun g l => fin a ds k (callN P g s l h)
def rDyn (P : Program) (cc : Nat → Code → Bx CF) (f : Od) (l : List AV → A → List AV) (s : S) (e : List AV) (a : A) (ds : List ADef) (h : H) (k : KF) : Out :=
  (f e a).onFn ((f e a).onRef .no fun t i => cnd (Nat.beq t 2) (fin a ds k (roundA cc i s (l e a) h)) .no)
      fun g fi ca => fin a ds k (callN P g s (appL fi (appL (l e a) ca)) h)
def rDfr (f : Od) (l : List AV → A → List AV) (_ : S) (e : List AV) (a : A) (ds : List ADef) (h : H) (k : KF) : Out := (f e a).onFn .no fun g fi ca => cnd (allK (l e a)) (k und (.fn g (appL fi (appL (l e a) ca)) :: ds) h) .no
def rPan (x : Od) (_ : S) (e : List AV) (a : A) (ds : List ADef) (h : H) (_ : KF) : Out := (x e a).onIfc .no fun t v => .pan (.ifc t v) a ds h
def rNo (_ : S) (_ : List AV) (_ : A) (_ : List ADef) (_ : H) (_ : KF) : Out := .no
/-- one operation -/
def runB (P : Program) (cc : Nat → Code → Bx CF) (rd : Bool) (op : Op') : Bx OF := match op with
  | .val f => .mk (rVal f)
  | .new f => .mk (rNew f)
  | .gho f => .mk (rGho f)
  | .chg f => .mk (rChg f)
  | .call f => .mk (rCall P f)
  | .dyn f l => .mk (rDyn P cc f l)
  | .dfr f l => cnd rd (.mk rNo) (.mk (rDfr f l))
  | .pan x => .mk (rPan x)
  | .rcv => .mk rNo
def gdV {β : Type} (w : Bool) (v : AV) (d y n : β) : β := v.onBool (cnd v.known n d) fun b => cnd (eqB b w) y n
def gdF (x : Od) (w : Bool) (f : OF) (s : S) (e : List AV) (a : A) (ds : List ADef) (h : H) (k : KF) : Out := gdV w (x e a) .no (f s e a ds h k) (k und ds h)
def guardB (g : Option (Od × Bool)) (f : OF) : Bx OF := match g with
  | none => .mk f
  | some (x, w) => .mk (gdF x w f)
def nextF (put : AV → A → A) (f : OF) (rest : RF) (s : S) (e : List AV) (a : A) (ds : List ADef) (h : H) : Out :=
  f s e a ds h fun v ds h => rest s (v :: e) (put v a) ds h
/-- the same where the frame does not turn -/
def nextN (f : OF) (rest : RF) (s : S) (e : List AV) (a : A) (ds : List ADef) (h : H) : Out := f s e a ds h fun v ds h => rest s (v :: e) a ds h
def isPut (W : Tr Bool) (d : Option Nat) : Bool := onO d false fun t => memW W t
def rgEnd (_ : S) (_ : List AV) (a : A) (ds : List ADef) (h : H) : Out := .norm a ds h
def writes (u : Nat) : List Oper → Bool
  | [] => false
  | o :: l => match o.dst with
    | some d => cnd (Nat.beq d u) true (writes u l)
    | none => writes u l
/-- a copy that need not be made: slot t, of x -/
def aliO (W : Tr Bool) (o : Oper) (l : List Oper) : Option (Nat × Operand) := match o.op, o.guard, o.dst with
  | .move x, none, some t => cnd (memW W t) none (match x with
    | .tmp u => cnd (writes u l) none (some (t, x))
    | _ => some (t, x))
  | _, _, _ => none
def rgF (P : Program) (cc : Nat → Code → Bx CF) (rd : Bool) (nt : Nat) (W : Tr Bool) (ops : Array Oper) : List Oper → List PE → Option RF
  | [], _ => some rgEnd
  | o :: l, pre => cnd (ltT nt o.dst) (match aliO W o l with
    | some x => rgF P cc rd nt W ops l (.ali x.1 x.2 :: pre)
    | none => onO (cOp P (cd1 W pre) o) none fun op => onO (cGd ops (cd1 W pre) o.guard) none fun g =>
      onO (rgF P cc rd nt W ops l (.val o.dst :: pre)) none fun rest => onB (runB P cc rd op) fun f => onB (guardB g f) fun f =>
        cnd (isPut W o.dst) (onB (putB W o.dst) fun put => some (nextF put f rest)) (some (nextN f rest))) none

/-! regions that draw their order -/
def maskE (acc : List Nat) : List Edge → Nat
  | [] => 0
  | e :: l => cnd (Region.binds .any e) (Nat.lor (Nat.pow 2 e.on) (Nat.lor ((nthL acc e.on).getD 0) (maskE acc l))) (maskE acc l)
def masks : List Oper → List Nat → List Nat
  | [], acc => acc
  | o :: l, acc => stN (maskE acc o.after.toList) fun m => masks l (appL acc [m])
def bit (m i : Nat) : Bool := Nat.beq (Nat.mod (Nat.shiftRight m i) 2) 1
def writer (t : Nat) : List Oper → Nat → Option Nat
  | [], _ => none
  | o :: l, i => match o.dst with
    | some d => cnd (Nat.beq d t) (some i) (writer t l (Nat.succ i))
    | none => writer t l (Nat.succ i)
def in2 (nt : Nat) (W : Tr Bool) (t : Nat) : Bool := cnd (Nat.ble (Nat.succ t) nt) (memW W t) false
def cd2 (nt : Nat) (W : Tr Bool) (ops : List Oper) (m : Nat) (x : Operand) : Bx Od := match x with
  | .tmp t => (match writer t ops 0 with
    | some j => cnd (bit m j) (odS (Nat.add nt j)) (cnd (in2 nt W t) (odS t) (odK bad))
    | none => cnd (in2 nt W t) (odS t) (odK bad))
  | .const v => odK ((toA v).getD bad)
  | .global _ => odK bad
  | .func f => odK (.fn f [] [])
/-- slot t, looked at by operation i: who writes it comes ahead, or comes behind -/
def seenB (ops : List Oper) (ms : List Nat) (i t : Nat) : Bool := match writer t ops 0 with
  | some j => orB (bit ((nthL ms i).getD 0) j) (bit ((nthL ms j).getD 0) i)
  | none => true
def tmpsB (f : Nat → Bool) : List Operand → Bool
  | [] => true
  | .tmp t :: l => cnd (f t) (tmpsB f l) false
  | _ :: l => tmpsB f l
def onceB : List Oper → Bool
  | [] => true
  | o :: l => match o.dst with
    | some t => (match writer t l 0 with | some _ => false | none => onceB l)
    | none => onceB l
def isLoud (op : Op') : Bool := match op with | .val _ | .new _ | .gho _ => false | _ => true
def qrVal (f : List AV → A → H → Option AV) (a : A) (h : H) (_ : Nat) : QR := onO (f [] a h) .no .v
def qrNew (f : List AV → A → H → Nat → Option (AV × AO)) (a : A) (h : H) (i : Nat) : QR := onO (f [] a h i) .no fun x => onP x .new
def qrGho (f : List AV → A → H → Nat → Option (AV × Bool)) (a : A) (h : H) (i : Nat) : QR := onO (f [] a h i) .no fun x => onP x fun v g => cnd g (.gho v) (.v v)
def qrNo (_ : A) (_ : H) (_ : Nat) : QR := .no
def qRunB (op : Op') : Bx (A → H → Nat → QR) := match op with
  | .val f => .mk (qrVal f)
  | .new f => .mk (qrNew f)
  | .gho f => .mk (qrGho f)
  | _ => .mk qrNo
def qgF (x : Od) (w : Bool) (f : A → H → Nat → QR) (a : A) (h : H) (i : Nat) : QR := gdV w (x [] a) .no (f a h i) (.v und)
def qGdB (g : Option (Od × Bool)) (f : A → H → Nat → QR) : Bx (A → H → Nat → QR) := match g with
  | none => .mk f
  | some (x, w) => .mk (qgF x w f)
/-- an operation: its number; whether it is loud; its temporary; how it runs, loud or quiet; the operands that it looks at -/
structure CO where
  i : Nat
  ld : Bool
  get : A → AV
  put : AV → A → A
  lf : OF
  qf : A → H → Nat → QR
  rd : List AV → A → List AV
def cGd2 (nt : Nat) (W : Tr Bool) (m : Nat) (ops : Array Oper) : Option (Nat × Bool) → Option (Option (Od × Bool))
  | none => some none
  | some (j, w) => match (ops[j]?).bind (·.dst) with
    | some t => cnd (bit m j) (onB (cd2 nt W ops.toList m (.tmp t)) fun x => some (some (x, w))) none
    | none => none
def gdX (ops : Array Oper) : Option (Nat × Bool) → Operand
  | none => .func 0
  | some (j, _) => match (ops[j]?).bind (·.dst) with | some t => .tmp t | none => .func 0
def edgesB (i : Nat) : List Edge → Bool
  | [] => true
  | e :: l => cnd (Region.binds .any e) (cnd (Nat.ble (Nat.succ e.on) i) (edgesB i l) false) (edgesB i l)
def cOperD (P : Program) (cc : Nat → Code → Bx CF) (rd : Bool) (nt : Nat) (W : Tr Bool) (ops : Array Oper) (ms : List Nat) (i : Nat) (o : Oper) : Option CO :=
  onO (nthL ms i) none fun m => onO (cOp P (cd2 nt W ops.toList m) o) none fun op => onO (cGd2 nt W m ops o.guard) none fun g =>
    cnd (ltT nt o.dst) (cnd (tmpsB (seenB ops.toList ms i) o.op.operands.toList)
      (onB (getS (Nat.add nt i)) fun get => onB (setS (Nat.add nt i)) fun put => onB (runB P cc rd op) fun f => onB (guardB g f) fun lf => onB (qRunB op) fun f => onB (qGdB g f) fun qf =>
        onB (odsB (cd2 nt W ops.toList m) (gdX ops o.guard :: o.op.operands.toList)) fun rd => cnd (edgesB i o.after.toList) (some ⟨i, isLoud op, get, put, lf, qf, rd⟩) none) none) none
def cOpersD (P : Program) (cc : Nat → Code → Bx CF) (rd : Bool) (nt : Nat) (W : Tr Bool) (ops : Array Oper) (ms : List Nat) : List Oper → Nat → Option (List CO)
  | [], _ => some []
  | o :: l, i => onO (cOperD P cc rd nt W ops ms i o) none fun c => onO (cOpersD P cc rd nt W ops ms l (Nat.succ i)) none fun m => some (c :: m)
def loudsOf : List CO → List CO
  | [] => []
  | c :: l => cnd c.ld (c :: loudsOf l) (loudsOf l)
def quietsOf : List CO → List CO
  | [] => []
  | c :: l => cnd c.ld (quietsOf l) (c :: quietsOf l)
def stageOf (m : Nat) : List CO → Nat
  | [] => 0
  | c :: l => cnd (bit m c.i) (Nat.succ (stageOf m l)) 0
def lastOf (ms : List Nat) (i : Nat) : List CO → Nat
  | [] => 0
  | c :: l => cnd (bit ((nthL ms c.i).getD 0) i) 0 (Nat.succ (lastOf ms i l))
structure QO where
  co : CO
  lo : Nat
  hi : Nat
def qosOf (ms : List Nat) (ls : List CO) : List CO → List QO
  | [] => []
  | c :: l => stN (stageOf ((nthL ms c.i).getD 0) ls) fun lo => stN (lastOf ms c.i ls) fun hi => ⟨c, lo, hi⟩ :: qosOf ms ls l
def chainB (ms : List Nat) : List CO → Bool
  | a :: b :: l => cnd (bit ((nthL ms b.i).getD 0) a.i) (chainB ms (b :: l)) false
  | _ => true
abbrev Tra := A × List H × List (List AV)
abbrev TF := A → H → (A → H → Option Tra) → Option Tra
/-- the quiet ones whose first stage is k, in order -/
def qsEnd (a : A) (h : H) (f : A → H → Option Tra) : Option Tra := f a h
def qsNext (i : Nat) (q : A → H → Nat → QR) (put : AV → A → A) (r : Nat → TF) (c : Nat) (a : A) (h : H) (f : A → H → Option Tra) : Option Tra :=
  (q a h (Nat.add c i)).on none (fun v => r c (put v a) h f) (fun v => r c (put v a) h f) fun v o => r c (put v a) (h.set (Nat.add c i) o) f
def qsB (k : Nat) : List QO → Bx (Nat → TF)
  | [] => .mk fun _ => qsEnd
  | q :: l => onB (qsB k l) fun r => cnd (Nat.beq q.lo k) (.mk (qsNext q.co.i q.co.qf q.co.put r)) (.mk r)
def outQ (o : Out) (f : AV → H → Option Tra) : Option Tra := o.on none (fun a _ h => f a.a0.a0 h) (fun _ _ _ _ => none) (fun _ _ _ _ => none) (fun _ _ _ => none) fun _ _ _ _ => none
def keepK (v : AV) (ds : List ADef) (h : H) : Out := nilD ds .no (.norm (rep16 (rep16 v)) [] h)
def stEnd (r : Nat → TF) (c : Nat) (_ : S) (a : A) (h : H) : Option Tra := r c a h fun a h => some (a, [h], [])
def stNext (r : Nat → TF) (lf : OF) (put : AV → A → A) (rd : List AV → A → List AV) (t : Nat → S → A → H → Option Tra) (c : Nat) (s : S) (a : A) (h : H) : Option Tra :=
  r c a h fun a h => outQ (lf s [] a [] h keepK) fun v h' => onO (t c s (put v a) h') none fun x => some (x.1, h :: x.2.1, (v :: rd [] a) :: x.2.2)
/-- stage by stage: the slots, the heaps behind so many loud ones, what the loud ones looked at -/
def stagesB (qs : List QO) : Nat → List CO → Bx (Nat → S → A → H → Option Tra)
  | k, [] => onB (qsB k qs) fun r => .mk (stEnd r)
  | k, co :: l => onB (qsB k qs) fun r => onB (stagesB qs (Nat.succ k) l) fun t => .mk (stNext r co.lf co.put co.rd t)
def isE (t : Tr (List AV)) : Bool := t.on true fun _ _ _ => false
def eqRow (r s : Row) : Bool := r.on (fun l => s.on (fun m => eqVs l m) fun _ _ _ _ => false) fun t n c z => s.on (fun _ => false) fun t' n' c' z' => cnd (isE t) (cnd (isE t') (cnd (Nat.beq n n') (cnd (Nat.beq c c') (eqVs z z') false) false) false) false
def eqO (x : AO) (y : Option AO) : Bool := onCells (some x) (onMap (some x) false fun es c => onMap y false fun es' c' => lcase es (lcase es' (Nat.beq c c') fun _ _ => false) fun _ _ => false) fun r s => onCells y false fun r' s' => cnd (Nat.beq s s') (eqRow r r') false
/-- a quiet operation says the same at all stages where it may come -/
def tryQ (c : Nat) (a : A) (q : QO) (l : List H) : Nat → Bool := lrec l (fun _ => true) fun h _ ih k => cnd (cnd (Nat.ble q.lo k) (Nat.ble k q.hi) false)
    (cnd ((q.co.qf a h (Nat.add c q.co.i)).on false (fun v => eqV v (q.co.get a)) (fun v => cnd (eqV v (q.co.get a)) (onO (h.get (Nat.add c q.co.i)) true fun _ => false) false) fun v o => cnd (eqV v (q.co.get a)) (eqO o (h.get (Nat.add c q.co.i))) false) (ih (Nat.succ k)) false)
    (ih (Nat.succ k))
def tryQs (c : Nat) (a : A) (hs : List H) (qs : List QO) : Bool := lrec qs true fun q _ ih => cnd (tryQ c a q hs 0) ih false
def tryLs (a : A) (ls : List CO) : List (List AV) → Bool := lrec ls (fun m => lcase m true fun _ _ => false) fun co _ ih m => lcase m false fun r m => cnd (eqVs (co.get a :: co.rd [] a) r) (ih m) false
def lastH (l : List H) : Option H := lrec l none fun h l ih => lcase l (some h) fun _ _ => ih
def bkEnd (_ : A) (a : A) : A := a
def bkNext (g : A → AV) (s : AV → A → A) (r : A → A → A) (b a : A) : A := r b (s (g b) a)
def backB (W : Tr Bool) (nt : Nat) : List Oper → Nat → Bx (A → A → A)
  | [], _ => .mk bkEnd
  | o :: l, i => onB (backB W nt l (Nat.succ i)) fun r => match o.dst with
    | some t => cnd (memW W t) (onB (getS (Nat.add nt i)) fun g => onB (setS t) fun s => .mk (bkNext g s r)) (.mk r)
    | none => .mk r
def drawR (st : Nat → S → A → H → Option Tra) (qs : List QO) (ls : List CO) (n : Nat) (bk : A → A → A) (s : S) (a : A) (ds : List ADef) (h : H) : Out :=
  onO (st h.n s a (h.skip n)) .no fun x => cnd (tryQs h.n x.1 x.2.1 qs) (cnd (tryLs x.1 ls x.2.2)
    (onO (lastH x.2.1) .no fun h => .norm (bk x.1 a) ds h) .no) .no
def drF (P : Program) (cc : Nat → Code → Bx CF) (rd : Bool) (nt : Nat) (W : Tr Bool) (ops : Array Oper) : Option CF :=
  onB (.mk (masks ops.toList [])) fun ms =>
  onO (cOpersD P cc rd nt W ops ms ops.toList 0) none fun all =>
    cnd (cnd (chainB ms (loudsOf all)) (onceB ops.toList) false) (onB (.mk (qosOf ms (loudsOf all) (quietsOf all))) fun qs => onB (stagesB qs 0 (loudsOf all)) fun st => onB (backB W nt ops.toList 0) fun bk =>
      some (drawR st qs (loudsOf all) (lenL all) bk)) none

/-! code -/
def loopF (f : CF) (s : S) (n : Nat) : A → List ADef → H → Out := nrec n (fun _ _ _ => .no) fun _ ih a ds h => (f s a ds h).onNorm ih
def blockF (i : Nat) (o : Out) : Out := o.on .no (fun a ds h => .norm a ds h) (fun j a ds h => cnd (Nat.beq j i) (.norm a ds h) (.exit j a ds h)) (fun i a ds h => .goto i a ds h) (fun a ds h => .ret a ds h) fun v a ds h => .pan v a ds h
def scopeF (o : Out) : Out := o.on .no (fun a ds h => .norm a ds h) (fun j a ds h => .exit j a ds h) (fun _ _ _ _ => .no) (fun a ds h => .ret a ds h) fun v a ds h => .pan v a ds h
def jumpF (c : Option Code) (a : A) (ds : List ADef) (h : H) : Out := match c with
  | none => .norm a ds h
  | some .ret => .ret a ds h
  | some (.exit i) => .exit i a ds h
  | some (.goto l) => .goto l a ds h
  | _ => .no
def rangeF (P : Program) (fn : Nat) (x : Od) (ps : List Nat) (asg body : Code) (s : S) (a : A) (ds : List ADef) (h : H) : Out :=
  (x [] a).onFn .no fun g fi ca => (callE P g s (appL fi (.ref 2 (Nat.succ h.n) :: ca)) ((h.new .dfr).new (.loop .ready none fn a ps asg body h.n))).on .no (fun _ _ => .no) fun _ h' =>
    onLoop (h'.get (Nat.succ h.n)) .no fun st pe fn tm ps asg body df => cnd (isBusy st) .no
      (jumpF pe a (.coll h.n :: ds) (h'.set (Nat.succ h.n) (.loop .exhausted pe fn tm ps asg body df)))
def xSkip (_ : S) (a : A) (ds : List ADef) (h : H) : Out := .norm a ds h
def xExit (i : Nat) (_ : S) (a : A) (ds : List ADef) (h : H) : Out := .exit i a ds h
def xRet (_ : S) (a : A) (ds : List ADef) (h : H) : Out := .ret a ds h
def xNo (_ : S) (_ : A) (_ : List ADef) (_ : H) : Out := .no
def xSeq (f g : CF) (s : S) (a : A) (ds : List ADef) (h : H) : Out := (f s a ds h).onNorm (g s)
def xCond (x : Od) (f g : CF) (s : S) (a : A) (ds : List ADef) (h : H) : Out := (x [] a).onBool .no fun b => cnd b (f s a ds h) (g s a ds h)
def xBlock (i : Nat) (f : CF) (s : S) (a : A) (ds : List ADef) (h : H) : Out := blockF i (f s a ds h)
def xScope (f : CF) (s : S) (a : A) (ds : List ADef) (h : H) : Out := scopeF (f s a ds h)
def xLoop (f : CF) (s : S) (a : A) (ds : List ADef) (h : H) : Out := loopF f s s.n a ds h
def xReg (o : Option RF) (s : S) (a : A) (ds : List ADef) (h : H) : Out := onO o .no fun f => f s [] a ds h
def xDraw (o : Option CF) (s : S) (a : A) (ds : List ADef) (h : H) : Out := onO o .no fun f => f s a ds h
def allLt (n : Nat) (l : List Nat) : Bool := lrec l true fun t _ ih => cnd (Nat.ble (Nat.succ t) n) ih false
def cC (P : Program) (cc : Nat → Code → Bx CF) (rd : Bool) (fn nt : Nat) (W : Tr Bool) : Code → Bx CF
  | .skip => .mk xSkip
  | .label _ => .mk xSkip
  | .exit i => .mk (xExit i)
  | .ret => .mk xRet
  | .seq x y => onB (cC P cc rd fn nt W x) fun f => onB (cC P cc rd fn nt W y) fun g => .mk (xSeq f g)
  | .cond c x y => onB (cd1 W [] c) fun c => onB (cC P cc rd fn nt W x) fun f => onB (cC P cc rd fn nt W y) fun g => .mk (xCond c f g)
  | .block i x => onB (cC P cc rd fn nt W x) fun f => .mk (xBlock i f)
  | .scope x => onB (cC P cc rd fn nt W x) fun f => .mk (xScope f)
  | .loop x => onB (cC P cc rd fn nt W x) fun f => .mk (xLoop f)
  | .region _ ops d => cnd d (.mk (xDraw (drF P cc rd nt W ops))) (.mk (xReg (rgF P cc rd nt W ops ops.toList [])))
  | .rangeFunc f ps asg body => cnd (cnd (allLt nt ps.toList) rd true) (.mk xNo) (onB (cd1 W [] f) fun x => .mk (rangeF P fn x ps.toList asg body))
  | _ => .mk xNo

/-! the slots of a function that are looked at from afar -/
def addW (t : Nat) (W : Tr Bool) : Tr Bool := Tr.set (pos t) (some true) W
def addX (pre : List (Option Nat)) (x : Operand) (W : Tr Bool) : Tr Bool := match x with
  | .tmp t => (match idxO t pre 0 with | some _ => W | none => addW t W)
  | _ => W
def addXs (pre : List (Option Nat)) : List Operand → Tr Bool → Tr Bool
  | [], W => W
  | x :: l, W => addXs pre l (addX pre x W)
def wR (ops : Array Oper) : List Oper → List (Option Nat) → Tr Bool → Tr Bool
  | [], _, W => W
  | o :: l, pre, W => wR ops l (o.dst :: pre) (addX pre (gdX ops o.guard) (addXs pre o.op.operands.toList W))
def wD : List Oper → Tr Bool → Tr Bool
  | [], W => W
  | o :: l, W => wD l (addXs [] o.op.operands.toList W)
def wC : Code → Tr Bool → Tr Bool
  | .seq x y, W => wC y (wC x W)
  | .cond c x y, W => wC y (wC x (addX [] c W))
  | .block _ x, W => wC x W
  | .scope x, W => wC x W
  | .loop x, W => wC x W
  | .region _ ops d, W => cnd d (wD ops.toList W) (wR ops ops.toList [] W)
  | .rangeFunc f _ asg body, W => wC body (wC asg (addX [] f W))
  | _, W => W
def wRes : List ResultVar → Tr Bool → Tr Bool
  | [], W => W
  | .tmp t :: l, W => wRes l (addW t W)
  | .cell p _ :: l, W => wRes l (addW p W)

/-! functions -/
abbrev ResF := A → H → Option (List AV)
def rsTmp (g : A → AV) (r : ResF) (a : A) (h : H) : Option (List AV) := cnd (g a).known (onO (r a h) none fun m => some (g a :: m)) none
def rsCell (g : A → AV) (l : H → Nat → Nat → Option AV) (r : ResF) (a : A) (h : H) : Option (List AV) := (g a).onPtr none fun i o => onO (l h i o) none fun v => onO (r a h) none fun m => some (v :: m)
def resB (P : Program) : List ResultVar → Bx ResF
  | [] => .mk fun _ _ => some []
  | .tmp t :: l => onB (getS t) fun g => onB (resB P l) fun r => .mk (rsTmp g r)
  | .cell p t :: l => match szT P t with
    | some n => onB (getS p) fun g => onB (ldB n (isAggT P t)) fun ld => onB (resB P l) fun r => .mk (rsCell g ld r)
    | none => .mk fun _ _ => none
def resV (l : List AV) : AV := lcase l (.agg true []) fun v m => lcase m v fun _ _ => .agg true l
def argsA (l : List AV) : Nat → A → A := lrec l (fun _ a => a) fun v _ ih i a => onB (setS i) fun s => stN (Nat.succ i) fun i => ih i (s v a)
/-- the deferred calls of a function that returns -/
def outA (P : Program) (s : S) (ds : List ADef) : H → Option H := lrec ds some fun d _ ih h => match d with
  | .coll i => onDfr (h.get i) none (ih (h.del i))
  | .fn f args => onO (extA P f) ((s.dcall f args h).on none (fun _ _ => none) fun _ h => ih h) fun _ => none
def retA (P : Program) (res : ResF) (s : S) (a : A) (ds : List ADef) (h : H) : RC :=
  onO (outA P s ds h) .no fun h => onO (res a h) .no fun l => .ret (resV l) h
structure FC where
  nt : Nat
  W : Tr Bool
  body : Code
  res : List ResultVar
def fnC (P : Program) (f : Nat) : Option FC := match P.funcs[f]? with
  | none => none
  | some fn => match fn.body with
    | none => none
    | some c => some ⟨fn.ntmps, wC c (wRes fn.results.toList .e), c, fn.results.toList⟩
/-- the code of function f, of a round -/
def cc0 (_ : Nat) (_ : Code) : Bx CF := .mk xNo
def ccP (P : Program) (f : Nat) (c : Code) : Bx CF := match fnC P f with
    | some x => cC P cc0 true f x.nt x.W c
    | none => .mk xNo

/-- a deferred function that recovers: regions, conditions -/
def rgR (P : Program) (nt : Nat) (W : Tr Bool) (ops : Array Oper) : List Oper → List PE → AV → List AV → A → H → Option (AV × A × H)
  | [], _, v, _, a, h => some (v, a, h)
  | o :: l, pre, v, e, a, h => onO (cOp P (cd1 W pre) o) none fun op => match o.guard with
    | some _ => none
    | none => cnd (ltT nt o.dst) (onB (putB W o.dst) fun put => match op with
      | .rcv => rgR P nt W ops l (.val o.dst :: pre) (.nil 4) ((v.onIfc (.nil 4) fun t u => .ifc t u) :: e) (put (v.onIfc (.nil 4) fun t u => .ifc t u) a) h
      | .val f => onO (f e a h) none fun w => rgR P nt W ops l (.val o.dst :: pre) v (w :: e) (put w a) h
      | .new f => onO (f e a h h.n) none fun w => rgR P nt W ops l (.val o.dst :: pre) v (w.1 :: e) (put w.1 a) (h.new w.2)
      | .chg f => onO (f e a h) none fun w => rgR P nt W ops l (.val o.dst :: pre) v (w.1 :: e) (put w.1 a) w.2
      | _ => none) none
def cR (P : Program) (nt : Nat) (W : Tr Bool) : Code → AV → A → H → Option (AV × A × H)
  | .seq x y, v, a, h => onO (cR P nt W x v a h) none fun r => cR P nt W y r.1 r.2.1 r.2.2
  | .region _ ops d, v, a, h => cnd d none (rgR P nt W ops ops.toList [] v [] a h)
  | .cond c x y, v, a, h => onB (cd1 W [] c) fun c => (c [] a).onBool none fun b => cnd b (cR P nt W x v a h) (cR P nt W y v a h)
  | .skip, v, a, h => some (v, a, h)
  | _, _, _, _ => none
def isNil4 (v : AV) : Bool := v.onNil false fun t => Nat.beq t 4
def panA (P : Program) (res : ResF) (a : A) (v : AV) (ds : List ADef) (h : H) : RC := match ds with
  | [] => .pan v h
  | [.fn g args] => v.onIfc .no fun t u => onO (extA P g) (onO (fnC P g) .no fun x => lcase x.res (onO (cR P x.nt x.W x.body (.ifc t u) (argsA args 0 nA) h) .no fun r => cnd (isNil4 r.1)
      (onO (res a r.2.2) .no fun l => .ret (resV l) r.2.2) .no) fun _ _ => .no) fun _ => .no
  | _ => .no
/-- a call of a function whose body is known -/
def bodyF (P : Program) (f : CF) (res : ResF) (s : S) (args : List AV) (h : H) : RC := (f s (argsA args 0 nA) [] h).on .no (fun a ds h => retA P res s a ds h) (fun _ _ _ _ => .no) (fun _ _ _ _ => .no)
  (fun a ds h => retA P res s a ds h) fun v a ds h => panA P res a v ds h
def noF (_ : S) (_ : List AV) (_ : H) : RC := .no
def resW (W : Tr Bool) : List ResultVar → Bool
  | [] => true
  | .tmp t :: l => cnd (memW W t) (resW W l) false
  | .cell p _ :: l => cnd (memW W p) (resW W l) false
def fnB (P : Program) (I : Nat → Option (S → List AV → H → RC)) (f : Nat) : Bx (S → List AV → H → RC) := match I f with
  | some g => .mk g
  | none => match fnC P f with
    | some x => cnd (resW x.W x.res) (onB (cC P (ccP P) false f x.nt x.W x.body) fun c => onB (resB P x.res) fun r => .mk (bodyF P c r)) (.mk noF)
    | none => .mk noF
def loops : Nat := 300
def callF (P : Program) (I : Nat → Option (S → List AV → H → RC)) (s : S) (f : Nat) (args : List AV) (h : H) : RC := onB (fnB P I f) fun g => g s args h
/-- a function called as a deferred one: it defers nothing itself -/
def endD (res : ResF) (a : A) (ds : List ADef) (h : H) : RC := nilD ds .no (onO (res a h) .no fun l => .ret (resV l) h)
def bodyD (f : CF) (res : ResF) (s : S) (args : List AV) (h : H) : RC := (f s (argsA args 0 nA) [] h).on .no (fun a ds h => endD res a ds h) (fun _ _ _ _ => .no) (fun _ _ _ _ => .no) (fun a ds h => endD res a ds h) fun _ _ _ _ => .no
def fnD (P : Program) (f : Nat) : Bx (S → List AV → H → RC) := match fnC P f with
  | some x => cnd (resW x.W x.res) (onB (cC P (ccP P) false f x.nt x.W x.body) fun c => onB (resB P x.res) fun r => .mk (bodyD c r)) (.mk noF)
  | none => .mk noF
def dcallF (P : Program) (s : S) (f : Nat) (args : List AV) (h : H) : RC := onB (fnD P f) fun g => g s args h
def ev (P : Program) (I : Nat → Option (S → List AV → H → RC)) (n : Nat) : S := nrec n ⟨loops, fun _ _ _ => .no, fun _ _ _ => .no⟩ fun _ ih => ⟨loops, callF P I ih, dcallF P ih⟩
def crcS (x : Nat) : Nat := stN (cnd (Nat.beq (Nat.mod x 2) 1) (Nat.xor (Nat.div x 2) 3988292384) (Nat.div x 2)) fun x => x
def crcL (l : List Nat) : Nat → Nat := lrec l (fun x => x) fun c _ ih x => stN (crcS (crcS (crcS (crcS (crcS (crcS (crcS (crcS (Nat.xor x c))))))))) fun x => ih x
def sumA (l : List Nat) : Nat := Nat.xor (crcL l 4294967295) 4294967295
def iSum (_ : S) (args : List AV) (h : H) : RC := lcase args .no fun x l => lcase l (x.onSl .no .no fun i o n c _ => cnd (cnd (Nat.ble n c) (Nat.ble n 1000000) false) (rowOf h i .no fun r => onO (r.ext o n) .no fun l => onO (bytesOf l) .no fun b => stN (sumA b) fun x => .ret (.int .u32 (.ofNat x)) h) .no) fun _ _ => .no
/-- World.written: some number, if every site has a disk -/
def okSite (h : H) (v : AV) : Bool := v.onPtr false fun j p => rowOf h j false fun r => onO (r.get p) false fun d => d.onPtr false fun k q => rowOf h k false fun r => onO (r.get (Nat.succ q)) false fun n => n.onInt false fun k _ => eqK k .i64
def okSites (h : H) (es : List (AV × AV × Nat)) : Bool := lrec es true fun e _ ih => cnd (okSite h e.2.1) ih false
def iUnk (_ : S) (args : List AV) (h : H) : RC := lcase args .no fun x l => lcase l (x.onPtr .no fun i o => rowOf h i .no fun r => onO (r.get (Nat.add o 3)) .no fun m => m.onRef .no fun t m => cnd (Nat.beq t 0)
  (onMap (h.get m) .no fun es _ => cnd (okSites h es) (.ret (.ref 1 h.n) (h.skip 1)) .no) .no) fun _ _ => .no
def intr (f : Nat) : Option (S → List AV → H → RC) := cnd (Nat.beq f 19) (some iUnk) (cnd (Nat.beq f 155) (some iSum) none)
/-- a first world: some pointer -/
def iPtr (_ : S) (args : List AV) (h : H) : RC := lcase args (.ret (.ptr h.n 0) (h.skip 1)) fun _ _ => .no
def intr5 (f : Nat) : Option (S → List AV → H → RC) := cnd (Nat.beq f 5) (some iPtr) (intr f)

end Go.Proofs.YtccadcefhfdmgaaGreatDoor.Ev
