/- Texts of this claim, joined: A2 M1 A3. -/
import Derived.KernelRfl
import Derived.Test.YtjoonfegjobgbaaGreatDoorProg
import Derived.WalkKit
import Derived.WalkSpells
import Derived.WalkLawsBesides
import Derived.BigQuiet
import Derived.Deep.QuietTactic
import Derived.Deep.LoopGhost
import Derived.Deep.DeepCutAuto
import Derived.Deep.RegionWith
import Derived.Lib.Hide
import Derived.IntWalk
import Derived.WalkSmall
import Derived.Test.YtjoonfegjobgbaaGreatDoorRa
set_option linter.unusedVariables false
set_option linter.unusedSimpArgs false
set_option maxRecDepth 100000
namespace Go.Proofs.YtjoonfegjobgbaaGreatDoor
open Go
abbrev TM := List (Nat × AV)
abbrev OB := List (Nat × Ob)
structure Rec where
  v : AV
  ob : OB
  rd : List Nat
def putT (tm : TM) : Option Nat → AV → TM
  | some d, v => (d, v) :: tm
  | none, _ => tm
def gd (ops : Array Oper) (o : Oper) (T : Nat → Option AV) : Option Bool :=
  match o.guard with
  | none => some true
  | some (j, want) => match (ops[j]?).bind (·.dst) with
    | some t => match T t with
      | some (.c .tt) => some want
      | some (.c .ff) => some (!want)
      | some (.c .ud) => some false
      | _ => none
    | none => some false
def hangs (ops : Array Oper) (i : Nat) (o : Oper) : Bool :=
  ops.toList.any fun p => (match p.guard with
    | some (j, _) => Nat.beq j i
    | none => false) || (match p.op, o.dst with
    | .pick (.tmp t) _ _, some d => Nat.beq t d
    | _, _ => false)
def oc (c : Option Prop) (X : Prop) : Prop := match c with
  | none => X
  | some p => p ∧ X
def brB (b : AV) (K : AV → Prop) : Prop := match b with
  | .c (.sc (.bool b)) => (b = true → K (.c .tt)) ∧ (b = false → K (.c .ff))
  | v => K v
def fN (n : Nat) (k : Nat → Prop) : Prop := match n with
  | 0 => k 0
  | m + 1 => k (m + 1)
def fNs : List Nat → (List Nat → Prop) → Prop
  | [], k => k []
  | n :: ns, k => fN n fun n => fNs ns fun ns => k (n :: ns)
def fV (v : Value) (k : Value → Prop) : Prop := match v with
  | .bool b => k (.bool b)
  | .int .i64 n => k (.int .i64 n)
  | .int .i32 n => k (.int .i32 n)
  | .int .u32 n => k (.int .u32 n)
  | .int .u8 n => k (.int .u8 n)
  | .int .u64 n => k (.int .u64 n)
  | .int j n => k (.int j n)
  | .string s => k (.string s)
  | v => k v
def fC (x : Ce) (k : Ce → Prop) : Prop := match x with
  | .bad => k .bad
  | .ud => k .ud
  | .tt => k .tt
  | .ff => k .ff
  | .sc v => fV v fun v => k (.sc v)
  | .nl => k .nl
  | .sl t l => k (.sl t l)
  | .lt t l => k (.lt t l)
  | .lf t l => k (.lf t l)
  | .oq v => k (.oq v)
  | .ow i => fN i fun i => k (.ow i)
  | .os i s a n => fN i fun i => k (.os i s a n)
  | .pv i o => fN i fun i => fN o fun o => k (.pv i o)
  | .pr i t j o => fN i fun i => fN o fun o => k (.pr i t j o)
  | .fv f l => fN f fun f => fNs l fun l => k (.fv f l)
def fCs : List Ce → (List Ce → Prop) → Prop
  | [], k => k []
  | x :: xs, k => fC x fun x => fCs xs fun xs => k (x :: xs)
def fP : List (Bool × List Ce) → (List (Bool × List Ce) → Prop) → Prop
  | [], k => k []
  | (true, cs) :: ps, k => fCs cs fun cs => fP ps fun ps => k ((true, cs) :: ps)
  | (false, cs) :: ps, k => fCs cs fun cs => fP ps fun ps => k ((false, cs) :: ps)
def fEs : List (List Ce) → (List (List Ce) → Prop) → Prop
  | [], k => k []
  | x :: xs, k => fCs x fun x => fEs xs fun xs => k (x :: xs)
def fA (v : AV) (k : AV → Prop) : Prop := match v with
  | .c x => fC x fun x => k (.c x)
  | .pe cs => fCs cs fun cs => k (.pe cs)
  | .ag cs => fCs cs fun cs => k (.ag cs)
  | .tu vs => fP vs fun vs => k (.tu vs)
def fO (o : Ob) (k : Ob → Prop) : Prop := match o with
  | .var cs => fCs cs fun cs => k (.var cs)
  | .ty e t l m => fN m fun m => k (.ty e t l m)
  | .ce e t es => fEs es fun es => k (.ce e t es)
  | .fz t l m => fN m fun m => k (.fz t l m)
  | .dp e t l m => fN m fun m => k (.dp e t l m)
  | .dead => k .dead
def fB : OB → (OB → Prop) → Prop
  | [], k => k []
  | (i, o) :: ob, k => fN i fun i => fO o fun o => fB ob fun ob => k ((i, o) :: ob)
def fE (E : Ef) (k : Ef → Prop) : Prop := match E with
  | ⟨v, ob, n⟩ => fA v fun v => fB ob fun ob => fN n fun n => k ⟨v, ob, n⟩
theorem fN_eq (n : Nat) (k : Nat → Prop) : fN n k = k n := by cases n <;> rfl
theorem fNs_eq : ∀ (ns : List Nat) (k : List Nat → Prop), fNs ns k = k ns
  | [], _ => rfl
  | n :: ns, k => by simp only [fNs, fN_eq, fNs_eq ns]
theorem fV_eq (v : Value) (k : Value → Prop) : fV v k = k v := by
  cases v <;> first | rfl | (rename_i j n; cases j <;> rfl)
theorem fC_eq (x : Ce) (k : Ce → Prop) : fC x k = k x := by
  cases x <;> simp only [fC, fN_eq, fNs_eq, fV_eq]
theorem fCs_eq : ∀ (cs : List Ce) (k : List Ce → Prop), fCs cs k = k cs
  | [], _ => rfl
  | x :: xs, k => by simp only [fCs, fC_eq, fCs_eq xs]
theorem fP_eq : ∀ (ps : List (Bool × List Ce)) (k : List (Bool × List Ce) → Prop), fP ps k = k ps
  | [], _ => rfl
  | (true, cs) :: ps, k => by simp only [fP, fCs_eq, fP_eq ps]
  | (false, cs) :: ps, k => by simp only [fP, fCs_eq, fP_eq ps]
theorem fEs_eq : ∀ (es : List (List Ce)) (k : List (List Ce) → Prop), fEs es k = k es
  | [], _ => rfl
  | x :: xs, k => by simp only [fEs, fCs_eq, fEs_eq xs]
theorem fA_eq (v : AV) (k : AV → Prop) : fA v k = k v := by
  cases v <;> simp only [fA, fC_eq, fCs_eq, fP_eq]
theorem fO_eq (o : Ob) (k : Ob → Prop) : fO o k = k o := by
  cases o <;> simp only [fO, fCs_eq, fEs_eq, fN_eq]
theorem fB_eq : ∀ (ob : OB) (k : OB → Prop), fB ob k = k ob
  | [], _ => rfl
  | (i, o) :: ob, k => by simp only [fB, fN_eq, fO_eq, fB_eq ob]
theorem fE_eq (E : Ef) (k : Ef → Prop) : fE E k = k E := by
  obtain ⟨v, ob, n⟩ := E
  simp only [fE, fA_eq, fB_eq, fN_eq]
def dstOk (N : Nat) (d : Option Nat) : Bool := match d with
  | some d => Nat.blt d N
  | none => true
def onG (G : Gf) (K : Ef → Prop) : Prop := match G with
  | .e E => K E
  | .g R val k => ∀ r : R, r = val → K (k r)
def rg (C : Cfg) (ops : Array Oper) (K : TM → OB → Nat → List Rec → Prop) : List Oper → Nat → TM → OB → Nat → List Rec → Prop
  | [], _, tm, ob, n, log => K tm ob n log
  | o :: rest, i, tm, ob, n, log => bif !dstOk C.N o.dst then False else match gd ops o (look tm) with
    | none => False
    | some false => rg C ops K rest (i + 1) (putT tm o.dst (.c .ud)) ob n (⟨.c .ud, [], []⟩ :: log)
    | some true => match opA C o (ev (look tm)) (look ob) n with
      | none => False
      | some (c, G) => oc c (onG G fun E => fE E fun E => fN (n + E.k) fun m => fNs (rds o (ev (look tm)) (look ob)) fun rd => match hangs ops i o with
        | true => brB E.v fun v => rg C ops K rest (i + 1) (putT tm o.dst v) (E.ob ++ ob) m (⟨v, E.ob, rd⟩ :: log)
        | false => rg C ops K rest (i + 1) (putT tm o.dst E.v) (E.ob ++ ob) m (⟨E.v, E.ob, rd⟩ :: log))
def wrK (o : Oper) (r : Rec) : List Nat := (match o.dst with
  | some d => [2 * d]
  | none => []) ++ r.ob.map fun p => 2 * p.1 + 1
def rdK (ops : Array Oper) (o : Oper) (r : Rec) : List Nat :=
  (o.op.operands.toList.filterMap fun x => match x with
    | .tmp t => some (2 * t)
    | _ => none) ++ (match o.guard with
    | some (j, _) => ((ops[j]?).bind (·.dst)).toList.map fun t => 2 * t
    | none => []) ++ r.rd.map fun i => 2 * i + 1
def disj (l m : List Nat) : Bool := l.all fun x => !m.contains x
def dedup_ (l : List Nat) : List Nat := l.foldr (fun x m => bif m.contains x then m else x :: m) []
theorem dedup_mem {x : Nat} : ∀ {l : List Nat}, x ∈ dedup_ l → x ∈ l
  | [], h => by cases h
  | y :: l, h => by
    have h : x ∈ (bif (dedup_ l).contains y then dedup_ l else y :: dedup_ l) := h
    cases hc : (dedup_ l).contains y with
    | true =>
      rw [hc] at h
      exact List.mem_cons_of_mem _ (dedup_mem h)
    | false =>
      rw [hc] at h
      rcases List.mem_cons.1 h with h | h
      · rw [h]; exact List.mem_cons_self
      · exact List.mem_cons_of_mem _ (dedup_mem h)
def fLB : List Nat → (List Nat → Bool) → Bool
  | [], k => k []
  | 0 :: l, k => fLB l fun m => k (0 :: m)
  | (n + 1) :: l, k => fLB l fun m => k ((n + 1) :: m)
theorem fLB_eq : ∀ (l : List Nat) (k : List Nat → Bool), fLB l k = k l
  | [], _ => rfl
  | 0 :: l, k => by simp only [fLB, fLB_eq l]
  | (n + 1) :: l, k => by simp only [fLB, fLB_eq l]
def ancs (o : Oper) (az : List (List Nat)) : List Nat :=
  dedup_ (o.after.toList.flatMap fun e => bif Region.binds .any e then e.on :: (az.getD e.on []) else [])
def ordF (ops : Array Oper) : List Oper → List Rec → Nat → List (Nat × List Nat × List Nat) → List (List Nat) → Bool
  | o :: rest, r :: rs, i, done, az =>
    fLB (ancs o az) fun a => fLB (wrK o r) fun w => fLB (rdK ops o r) fun rd => (o.after.toList.all fun e => !Region.binds .any e || Nat.blt e.on i) && (done.all fun p => a.contains p.1 || (disj w p.2.1 && disj w p.2.2 && disj rd p.2.1)) && ordF ops rest rs (i + 1) ((i, w, rd) :: done) (az ++ [a])
  | [], [], _, _, _ => true
  | _, _, _, _, _ => false
def mC (O : Store) (x' x : Ce) : Option (List (Nat × Option Nat) × List Prop) :=
  match x', x with
  | .bad, .ud => none
  | .bad, _ => some ([], [])
  | .ud, .ud => some ([], [])
  | .tt, .tt => some ([], [])
  | .ff, .ff => some ([], [])
  | .sc (.bool b), .tt => some ([], [b = true])
  | .sc (.bool b), .ff => some ([], [b = false])
  | .sc (.bool b), .sc (.bool c) => some ([], [b = c])
  | .sc (.int k n), .sc (.int k' m) => if k = k' then some ([], [n = m]) else none
  | .sc (.string a), .sc (.string b) => some ([], [a = b])
  | .sc (.pointer none), .sc (.pointer none) => some ([], [])
  | .sc .nilFunc, .sc .nilFunc => some ([], [])
  | .nl, .nl => some ([], [])
  | .sl _ l, .nl => some ([], [l = []])
  | .oq a, .oq b => some ([], [a = b])
  | .sl t l, .sl u m => (cast_ u t m).map fun m => ([], [l = m])
  | .sl t l, .lt u m => (cast_ (unl u) t (unL u m)).map fun m => ([], [l = m])
  | .sl t l, .lf u m => (cast_ (unl u) t (unL u m ++ mkv u)).map fun m => ([], [l = m])
  | .lt t l, .lt u m => (cast_ u t m).map fun m => ([], [l = m])
  | .lf t l, .lf u m => (cast_ u t m).map fun m => ([], [l = m])
  | .sl t l, .ow j => match O j with
    | some (.fz u m k) => (cvM k u t m).map fun m => ([], [l = m])
    | _ => none
  | .ow i, .ow j => some ([(i, some j)], [])
  | .ow i, .nl => some ([(i, none)], [])
  | .pv i o, .pv j o' => bif Nat.beq o o' then some ([(i, some j)], []) else none
  | .fv f l, .fv g m => bif Nat.beq f g && Nat.beq l.length m.length then some (l.zip (m.map some), []) else none
  | _, _ => none
def mCs (O : Store) : List Ce → List Ce → Option (List (Nat × Option Nat) × List Prop)
  | [], [] => some ([], [])
  | x :: xs, y :: ys => match mC O x y, mCs O xs ys with
    | some (l, p), some (m, q) => some (l ++ m, p ++ q)
    | _, _ => none
  | _, _ => none
def mTu (O : Store) : List (Bool × List Ce) → List (Bool × List Ce) → Option (List (Nat × Option Nat) × List Prop)
  | [], [] => some ([], [])
  | (a, x) :: xs, (b, y) :: ys => match bif a == b then mCs O x y else none, mTu O xs ys with
    | some (l, p), some (m, q) => some (l ++ m, p ++ q)
    | _, _ => none
  | _, _ => none
def mA (O : Store) : AV → AV → Option (List (Nat × Option Nat) × List Prop)
  | .c x, .c y => mC O x y
  | .ag xs, .ag ys => mCs O xs ys
  | .tu xs, .tu ys => mTu O xs ys
  | _, _ => none
def mEs (O : Store) : List (List Ce) → List (List Ce) → Option (List (Nat × Option Nat) × List Prop)
  | [], [] => some ([], [])
  | x :: xs, y :: ys => match mCs O x y, mEs O xs ys with
    | some (l, p), some (m, q) => some (l ++ m, p ++ q)
    | _, _ => none
  | _, _ => none
def mO (O : Store) : Ob → Option Ob → Option (List (Nat × Option Nat) × List Prop)
  | .var xs, some (.var ys) => mCs O xs ys
  | .ty e t l k, some (.ty e' u m k') => bif Nat.beq e e' && Nat.beq k k' then (cast_ u t m).map fun m => ([], [l = m]) else none
  | .dp e t l k, some (.dp e' u m k') => bif Nat.beq e e' && Nat.beq k k' then (cast_ u t m).map fun m => ([], [l = m]) else none
  | .ty _ _ l 0, none => some ([], [l = []])
  | .dp e t l 0, none => bif t.nop && Nat.beq e (eidS t) then some ([], [l = []]) else none
  | .ce e t es, some (.ce e' u fs) => bif Nat.beq e e' then if t = u then mEs O es fs else none else none
  | _, _ => none
def mTM (T : Nat → Option AV) (O : Store) : TM → Option (List (Nat × Option Nat) × List Prop)
  | [] => some ([], [])
  | (t, v) :: tm => match T t with
    | some u => match mA O v u, mTM T O tm with
      | some (l, p), some (m, q) => some (l ++ m, p ++ q)
      | _, _ => none
    | none => none
def mOB (O : Store) : OB → List (Nat × Option Nat) → List Prop → Option (List (Nat × Option Nat) × List Prop)
  | [], M, ps => some (M, ps)
  | (i, o) :: ob, M, ps => match look M i with
    | some (some j) => match O j with
      | some x => match mO O o (some x) with
        | some (l, p) => mOB O ob (M ++ l) (ps ++ p)
        | none => none
      | none => none
    | some none => match mO O o none with
      | some (l, p) => mOB O ob (M ++ l) (ps ++ p)
      | none => none
    | none => none
def conM : List (Nat × Option Nat) → Bool
  | [] => true
  | (i, j) :: M => (M.all fun p => (bif Nat.beq p.1 i then p.2 == j else (match p.2, j with
    | some a, some b => !Nat.beq a b
    | _, _ => true))) && conM M
def allP : List Prop → Prop → Prop
  | [], X => X
  | p :: ps, X => p ∧ allP ps X
def is00 : Option (Option Nat) → Bool
  | some (some 0) => true
  | _ => false
def wk (hp : Bool) (tm' : TM) (ob' : OB) (n' : Nat) (T : Nat → Option AV) (O : Store) (X : Prop) : Prop :=
  match mTM T O tm' with
  | some (M, ps) => match mOB O ob' M ps with
    | some (M, ps) => bif conM M && ((!hp || is00 (look M 0) && (look ob' 0).isSome) && (M.all fun p => Nat.blt p.1 n')) then allP ps X else False
    | none => False
  | none => False
structure Inv where
  X : Type
  tm : X → TM
  ob : X → OB
  n : Nat
  I : X → Prop
  μ : X → Nat
  lk : Option (Nat → X → Prop) := none
def loops : Code → Nat
  | .seq a b => loops a + loops b
  | .cond _ a b => loops a + loops b
  | .block _ a => loops a
  | .scope a => loops a
  | .loop a => loops a + 1
  | _ => 0
abbrev QA := Exit → TM → OB → Nat → Prop
def iter (step : QA → TM → OB → Nat → Prop) (Q : QA) : Nat → TM → OB → Nat → Prop
  | 0, _, _, _ => False
  | m + 1, tm, ob, n => step (fun e tm ob n => match e with
    | .normal => iter step Q m tm ob n
    | e => Q e tm ob n) tm ob n
def aw (C : Cfg) (iv : Nat → Option Inv) (code : Code) (k : Nat) (Q : QA) (tm : TM) (ob : OB) (n : Nat) : Prop := match code, k, Q, tm, ob, n with
  | .skip, _, Q, tm, ob, n => Q .normal tm ob n
  | .label _, _, Q, tm, ob, n => Q .normal tm ob n
  | .region _ ops false, _, Q, tm, ob, n => rg C ops (fun tm ob n _ => Q .normal tm ob n) ops.toList 0 tm ob n []
  | .region _ ops true, _, Q, tm, ob, n => rg C ops (fun tm ob n log => bif ordF ops ops.toList log.reverse 0 [] [] then Q .normal tm ob n else False) ops.toList 0 tm ob n []
  | .seq a b, k, Q, tm, ob, n => aw C iv a k (fun e tm ob n => match e with
    | .normal => aw C iv b (k + loops a) Q tm ob n
    | e => Q e tm ob n) tm ob n
  | .cond c a b, k, Q, tm, ob, n => match ev (look tm) c with
    | some (.c .tt) => aw C iv a k Q tm ob n
    | some (.c .ff) => aw C iv b (k + loops a) Q tm ob n
    | some (.c (.sc (.bool t))) => (t = true → aw C iv a k Q tm ob n) ∧ (t = false → aw C iv b (k + loops a) Q tm ob n)
    | _ => False
  | .block id a, k, Q, tm, ob, n => aw C iv a k (fun e tm ob n => match e with
    | .exit id' => bif Nat.beq id' id then Q .normal tm ob n else Q (.exit id') tm ob n
    | e => Q e tm ob n) tm ob n
  | .loop a, k, Q, tm, ob, n => match look C.un k with
    | some m => iter (aw C iv a (k + 1)) Q m tm ob n
    | none => match iv k with
    | none => False
    | some J => match J.lk with
      | none => (∃ x, wk C.hp (J.tm x) (J.ob x) J.n (look tm) (look ob) (J.I x)) ∧ ∀ x, J.I x → aw (C.at (J.μ x)) iv a (k + 1) (fun e tm ob n => match e with
        | .normal => ∃ x', wk C.hp (J.tm x') (J.ob x') J.n (look tm) (look ob) (J.I x' ∧ J.μ x' < J.μ x)
        | e => Q e tm ob n) (J.tm x) (J.ob x) J.n
      | some L => (∃ x, wk C.hp (J.tm x) (J.ob x) J.n (look tm) (look ob) (J.I x ∧ L C.cx x)) ∧ ∀ x, J.I x ∧ L C.cx x → aw (C.at (J.μ x)) iv a (k + 1) (fun e tm ob n => match e with
        | .normal => ∃ x', wk C.hp (J.tm x') (J.ob x') J.n (look tm) (look ob) ((J.I x' ∧ L C.cx x') ∧ J.μ x' < J.μ x)
        | e => Q e tm ob n) (J.tm x) (J.ob x) J.n
  | .exit id, _, Q, tm, ob, n => Q (.exit id) tm ob n
  | .ret, _, Q, tm, ob, n => Q .ret tm ob n
  | _, _, _, _, _, _ => False
def argT : Nat → (ts : List Ty) → Els ts → TM
  | _, [], _ => []
  | n, t :: ts, x => (n, match cel t x.1 with
    | [c] => bif t.agg then .ag [c] else .c c
    | cs => .ag cs) :: argT (n + 1) ts x.2
def resV (C : Cfg) (T : Nat → Option AV) (O : Store) : List ResultVar → Option (List (Bool × List Ce))
  | [] => some []
  | .tmp t :: rs => match T t, resV C T O rs with
    | some (.c x), some l => some ((false, [x]) :: l)
    | some (.ag cs), some l => some ((true, cs) :: l)
    | _, _ => none
  | .cell a t :: rs => match T a, C.t t, resV C T O rs with
    | some (.c (.pv i 0)), some t, some l => match O i with
      | some (.var cs) => (subC cs 0 t.size).map fun cs => (t.agg, cs) :: l
      | _ => none
    | _, _, _ => none
def frsEs (O : Store) : List Ty → List (Bool × List Ce) → Option (List Nat)
  | [], [] => some []
  | t :: ts, p :: ps => match frsE O t p.2, frsEs O ts ps with
    | some l, some m => some (l ++ m)
    | _, _ => none
  | _, _ => none
def toRs (O : Store) : (ts : List Ty) → List (Bool × List Ce) → Option (Els ts)
  | [], [] => some ()
  | t :: ts, p :: ps => match (bif p.1 == t.agg then toR O t p.2 else none), toRs O ts ps with
    | some x, some y => some (x, y)
    | _, _ => none
  | _, _ => none
def frsOk (O : Store) (fresh : Bool) (ts : List Ty) (vs : List (Bool × List Ce)) : Bool :=
  bif fresh then match frsEs O ts vs with
    | some l => nodupN l
    | none => false
  else match frz O (vs.map fun p => .ag p.2) with
    | some _ => true
    | none => false
def retV (O : Store) (fresh : Bool) (ts : List Ty) (vs : List (Bool × List Ce)) : Option (Els ts) := match fresh with
  | true => toRs O ts vs
  | false => match frz O (vs.map fun p => .ag p.2) with
    | some fz => toRs (onlyFz O fz) ts vs
    | none => none
def retQ (C : Cfg) (S : Spec) (rvs : List ResultVar) (y : El S.q) (x : Els S.ps) : QA := fun e tm ob _ =>
  match e with
  | .panic _ | .exit _ | .goto _ | .outgrown => False
  | _ => match resV C (look tm) (look ob) rvs with
    | some vs => match frsOk (look ob) S.fresh S.rs vs, retV (look ob) S.fresh S.rs vs with
      | true, some a => match S.ptr with
        | false => a = (S.post y x).2
        | true => match look ob 0 with
          | some (.var cs) => match toE (fun _ => none) S.q cs with
            | some b => (b, a) = S.post y x
            | none => False
          | _ => False
      | _, _ => False
    | none => False
def startT (S : Spec) (x : Els S.ps) : TM := match S.ptr with
  | false => argT 0 S.ps x
  | true => (0, .c (.pv 0 0)) :: argT 1 S.ps x
def startO (S : Spec) (y : El S.q) : OB := match S.ptr with
  | false => []
  | true => [(0, .var (cel S.q y))]
end Go.Proofs.YtjoonfegjobgbaaGreatDoor
namespace Go.Proofs.YtjoonfegjobgbaaGreatDoor
open Go Go.RowKit
def Ext (w w' : World) : Prop := Below w.heap.size w w'
theorem Ext.refl (w : World) : Ext w w := Below.refl _ _
theorem Ext.size {w w' : World} (h : Ext w w') : w.heap.size ≤ w'.heap.size := Below.size h
theorem Ext.trans {a b c : World} (h : Ext a b) (k : Ext b c) : Ext a c := Below.trans h (Below.mono k h.size)
theorem Ext.alloc {a w : World} (h : Ext a w) (o : Obj) : Ext a (w.alloc o) := Below.alloc h (Below.size h) o
theorem Ext.drew {a w : World} (h : Ext a w) : Ext a w.drew := Below.drew h
theorem Ext.drewN {a w : World} (h : Ext a w) (n : Nat) : Ext a (w.drewN n) := below_drewN h n
theorem Ext.setCell {a w : World} (h : Ext a w) {p : Addr} (hp : a.heap.size ≤ p.block) (u : Value) : Ext a (w.setCell p u) := Below.setCell h hp u
theorem Ext.grown {a w w' : World} {row : Option Nat} (h : Ext a w) (hg : w.grownBy w' row) (hr : ∀ k, row = some k → a.heap.size ≤ k) : Ext a w' := Below.grown h hg (Below.size h) hr
theorem Ext.grownNone {a w w' : World} (h : Ext a w) (hg : w.grownBy w' none) : Ext a w' := h.grown hg (fun _ e => by cases e)
theorem Ext.by_ {w w' : World} (h : Ext w w') (row : Option Nat) : w.grownBy w' row := ⟨h.os, h.tape, h.output, Below.size h, fun k hk _ => h.block k hk⟩
theorem Ext.cell {w w' : World} (h : Ext w w') {p : Addr} {v : Value} (hc : w.cell? p = some v) : w'.cell? p = some v := (Below.cell h (World.block_lt_of_cell? w p hc)).trans hc
theorem Ext.frozen {w w' : World} (h : Ext w w') {p : Addr} {v : Value} (hc : w.cell? p = some v) : w'.frozen? p = w.frozen? p := Below.frozen h (World.block_lt_of_cell? w p hc)
theorem grown_trans {a b c : World} {row : Option Nat} (h : a.grownBy b row) (k : b.grownBy c row) : a.grownBy c row :=
  ⟨k.os.trans h.os, k.tape.trans h.tape, k.output.trans h.output, Nat.le_trans h.size k.size, fun i hi hr => (k.block i (Nat.lt_of_lt_of_le hi h.size) hr).trans (h.block i hi hr)⟩
theorem grown_alloc {a b : World} {row : Option Nat} (h : a.grownBy b row) (o : Obj) : a.grownBy (b.alloc o) row := grown_trans h (World.grownBy_alloc b o row)
theorem grown_ext {a b c : World} {row : Option Nat} (h : a.grownBy b row) (k : Ext b c) : a.grownBy c row := grown_trans h (k.by_ row)
def nums (xs : List Int) : List Value := xs.map (Value.int .u32)
theorem nums_length (xs : List Int) : (nums xs).length = xs.length := by simp [nums]
theorem nums_at (xs : List Int) (j : Nat) (h : j < xs.length) : (nums xs)[j]? = some (.int .u32 (nth xs j)) := by
  simp [nums, List.getElem?_map, List.getElem?_eq_getElem h, nth_lt xs j h]
theorem nums_set (xs : List Int) (j : Nat) (v : Int) : (nums xs).set j (.int .u32 v) = nums (xs.set j v) := by simp [nums, List.map_set]
structure Rd (w : World) (A : Option Addr) (c : Nat) (xs : List Int) : Prop where
  cap : xs.length ≤ c
  capm : c ≤ 9223372036854775807
  none_ : A = none → c = 0
  at_ : ∀ j, j < xs.length → ∃ a, A = some a ∧ w.cell? (a.add j) = some (.int .u32 (nth xs j))
theorem Rd.lim {w : World} {A : Option Addr} {c : Nat} {xs : List Int} (h : Rd w A c xs) : xs.length ≤ 9223372036854775807 := Nat.le_trans h.cap h.capm
theorem Rd.ext {w w' : World} {A : Option Addr} {c : Nat} {xs : List Int} (h : Rd w A c xs) (e : Ext w w') : Rd w' A c xs :=
  ⟨h.cap, h.capm, h.none_, fun j hj => let ⟨a, ha, hc⟩ := h.at_ j hj; ⟨a, ha, e.cell hc⟩⟩
theorem Rd.kept {w w' : World} {A : Option Addr} {c : Nat} {xs : List Int} (h : Rd w A c xs) {row : Option Nat} (e : w.grownBy w' row) (hne : ∀ a, A = some a → some a.block ≠ row) : Rd w' A c xs :=
  ⟨h.cap, h.capm, h.none_, fun j hj => by
    obtain ⟨a, ha, hc⟩ := h.at_ j hj
    have hb : (a.add j).block = a.block := by unfold Addr.add; split <;> rfl
    exact ⟨a, ha, e.cell hc (by rw [hb]; exact hne a ha)⟩⟩
theorem Rd.nil (w : World) : Rd w none 0 [] := ⟨Nat.le_refl _, by omega, fun _ => rfl, fun _ hj => absurd hj (Nat.not_lt_zero _)⟩
theorem Rd.some_ {w : World} {A : Option Addr} {c : Nat} {xs : List Int} (h : Rd w A c xs) (hp : 0 < xs.length) : ∃ a, A = some a := let ⟨a, ha, _⟩ := h.at_ 0 hp; ⟨a, ha⟩
theorem Rd.cell {w : World} {a : Addr} {c : Nat} {xs : List Int} (h : Rd w (some a) c xs) (j : Nat) (hj : j < xs.length) : w.cell? (a.add j) = some (.int .u32 (nth xs j)) := by
  obtain ⟨a', ha, hc⟩ := h.at_ j hj
  cases ha
  exact hc
def Own (w : World) (base : Nat) (A : Option Addr) (c : Nat) (xs : List Int) : Prop := w.ownsRow base 46 1 (.slice A xs.length c) xs.length (nums xs)
theorem Own.nil (w : World) (base : Nat) : Own w base none 0 [] := World.ownsRow_nil w base _ 1
theorem Own.cases {w : World} {base : Nat} {A : Option Addr} {c : Nat} {xs : List Int} (h : Own w base A c xs) :
    (A = none ∧ c = 0 ∧ xs = []) ∨ ∃ g cur, A = some ⟨g, 0, none⟩ ∧ base ≤ g ∧ w.heap[g]? = some (.cells cur 46 (0, 0)) ∧ xs.length ≤ c ∧ c ≤ 9223372036854775807 ∧ cur.size = c ∧ cur.toList.take xs.length = nums xs := by
  rcases h.2 with ⟨h1, h2⟩ | ⟨g, cap, cur, he, h1, h2, h3, h4, h5, h6⟩
  · injection h1 with e1 e2 e3
    exact .inl ⟨e1, e3, List.eq_nil_of_length_eq_zero h2⟩
  · injection he with e1 e2 e3
    subst e1
    subst e3
    simp only [Nat.mul_one] at h5 h6
    simp only [maxLen] at h4
    exact .inr ⟨g, cur, rfl, h1, h2, h3, by omega, h5, h6⟩
theorem Own.mk {w : World} {base g c : Nat} {xs : List Int} {cur : Array Value} (h1 : base ≤ g) (h2 : w.heap[g]? = some (.cells cur 46 (0, 0))) (h3 : xs.length ≤ c) (h4 : c ≤ 9223372036854775807) (h5 : cur.size = c) (h6 : cur.toList.take xs.length = nums xs) : Own w base (some ⟨g, 0, none⟩) c xs :=
  ⟨by simp [nums], .inr ⟨g, c, cur, rfl, h1, h2, h3, by unfold maxLen; omega, by simpa using h5, by simpa using h6⟩⟩
theorem Own.form {w : World} {base : Nat} {A : Option Addr} {c : Nat} {xs : List Int} (h : Own w base A c xs) : A = none ∨ ∃ g, A = some ⟨g, 0, none⟩ ∧ base ≤ g ∧ g < w.heap.size := by
  rcases h.cases with ⟨h1, _⟩ | ⟨g, cur, h1, h2, h3, _⟩
  · exact .inl h1
  · exact .inr ⟨g, h1, h2, (Array.getElem?_eq_some_iff.1 h3).1⟩
theorem Own.block {w : World} {base : Nat} {a : Addr} {c : Nat} {xs : List Int} (h : Own w base (some a) c xs) : base ≤ a.block ∧ a.block < w.heap.size := by
  rcases h.form with h1 | ⟨g, h1, h2, h3⟩
  · cases h1
  · cases h1; exact ⟨h2, h3⟩
theorem Own.rd {w : World} {base : Nat} {A : Option Addr} {c : Nat} {xs : List Int} (h : Own w base A c xs) : Rd w A c xs := by
  rcases h.cases with ⟨rfl, rfl, rfl⟩ | ⟨g, cur, rfl, h1, h2, h3, h4, h5, h6⟩
  · exact Rd.nil w
  · refine ⟨h3, h4, (fun e => by cases e), fun j hj => ⟨_, rfl, ?_⟩⟩
    exact World.ownsRow.cells h (g := g) rfl j _ (nums_at xs j hj)
theorem Own.lower {w : World} {base base' : Nat} {A : Option Addr} {c : Nat} {xs : List Int} (h : Own w base A c xs) (hb : base' ≤ base) : Own w base' A c xs := by
  rcases h.cases with ⟨rfl, rfl, rfl⟩ | ⟨g, cur, rfl, h1, h2, h3, h4, h5, h6⟩
  · exact Own.nil w _
  · exact Own.mk (by omega) h2 h3 h4 h5 h6
theorem Own.kept {w w' : World} {base : Nat} {A : Option Addr} {c : Nat} {xs : List Int} (h : Own w base A c xs) {row : Option Nat} (e : w.grownBy w' row) (hne : ∀ a, A = some a → some a.block ≠ row) : Own w' base A c xs :=
  World.ownsRow.kept h e (by
    cases A with
    | none => exact .inl rfl
    | some a => exact .inr (hne a rfl))
theorem Own.ext {w w' : World} {base : Nat} {A : Option Addr} {c : Nat} {xs : List Int} (h : Own w base A c xs) (e : Ext w w') : Own w' base A c xs :=
  h.kept (e.by_ none) (fun _ _ => by simp)
theorem Own.take {w : World} {base : Nat} {A : Option Addr} {c : Nat} {xs : List Int} (h : Own w base A c xs) (n : Nat) : Own w base A c (xs.take n) := by
  rcases h.cases with ⟨rfl, rfl, rfl⟩ | ⟨g, cur, rfl, h1, h2, h3, h4, h5, h6⟩
  · rw [List.take_nil]; exact Own.nil w _
  · refine Own.mk h1 h2 (by rw [List.length_take]; omega) h4 h5 ?_
    have e : nums (xs.take n) = (nums xs).take n := by simp [nums, List.map_take]
    rw [e, ← h6, List.take_take, List.length_take]
theorem Own.set {w : World} {base g c : Nat} {xs : List Int} (h : Own w base (some ⟨g, 0, none⟩) c xs) (j : Nat) (v : Int) :
    Own (w.setCell ⟨g, j, none⟩ (.int .u32 v)) base (some ⟨g, 0, none⟩) c (xs.set j v) ∧ w.grownBy (w.setCell ⟨g, j, none⟩ (.int .u32 v)) (some g) := by
  have := World.ownsRow.stored h j (.int .u32 v)
  unfold Own
  rw [List.length_set, ← nums_set]
  exact this
theorem Own.cell {w : World} {base g c : Nat} {xs : List Int} (h : Own w base (some ⟨g, 0, none⟩) c xs) (j : Nat) (hj : j < xs.length) : w.cell? ⟨g, j, none⟩ = some (.int .u32 (nth xs j)) := by
  rw [World.ownsRow.cellAt h j (by omega)]
  exact nums_at xs j hj
theorem Own.free {w : World} {base g c : Nat} {xs : List Int} (h : Own w base (some ⟨g, 0, none⟩) c xs) (j : Nat) : w.frozen? ⟨g, j, none⟩ = false := World.ownsRow.frozenAt h j
theorem Own.setBelow {w : World} {base : Nat} {A : Option Addr} {c : Nat} {xs : List Int} (h : Own w base A c xs) {p : Addr} (hp : p.block < base) (u : Value) : Own (w.setCell p u) base A c xs := ownsRow_setCell_below h hp u
theorem Own.apart {w w' : World} {base base' : Nat} {A B : Option Addr} {c d : Nat} {xs ys : List Int} (h : Own w base A c xs) (k : Own w' base' B d ys) (hb : w.heap.size ≤ base') : ∀ a b, A = some a → B = some b → a.block ≠ b.block := by
  intro a b ha hb'
  subst ha
  subst hb'
  have := h.block
  have := k.block
  omega
theorem Rd.lt {w : World} {a : Addr} {c : Nat} {xs : List Int} (h : Rd w (some a) c xs) (hp : 0 < xs.length) : a.block < w.heap.size := by
  have := World.block_lt_of_cell? w _ (h.cell 0 hp)
  have hb : (a.add 0).block = a.block := by unfold Addr.add; split <;> rfl
  rwa [hb] at this
theorem Own.apartRd {w w' : World} {base : Nat} {A B : Option Addr} {c d : Nat} {xs ys : List Int} (h : Own w' base A c xs) (k : Rd w B d ys) (hb : w.heap.size ≤ base) : ∀ a b, A = some a → B = some b → 0 < ys.length → a.block ≠ b.block := by
  intro a b ha hb' hp
  subst ha
  subst hb'
  have := h.block
  have := k.lt hp
  omega
theorem info_u32 : (Tryz.prog.info? 46).map (fun i => (i.zero, i.size, i.bytes)) = some (some (.int .u32 0), 1, 4) := by kernel_rfl
theorem add_plain (g o j : Nat) : (⟨g, o, none⟩ : Addr).add j = ⟨g, o + j, none⟩ := by unfold Addr.add; split <;> simp_all
theorem Own.sub {w : World} {base g C : Nat} {us : List Int} (h : Own w base (some ⟨g, 0, none⟩) C us) (o l c : Nat) (hl : o + l ≤ us.length) (hc : l ≤ c) (hcm : c ≤ 9223372036854775807) : Rd w (some ⟨g, o, none⟩) c ((us.drop o).take l) := by
  have hlen : ((us.drop o).take l).length = l := by rw [List.length_take, List.length_drop]; omega
  refine ⟨by omega, hcm, (fun e => by cases e), fun j hj => ⟨_, rfl, ?_⟩⟩
  rw [add_plain, nth_take _ _ _ (by omega), nth_drop]
  exact h.cell (o + j) (by omega)
theorem sub_len (us : List Int) (o l : Nat) (hl : o + l ≤ us.length) : ((us.drop o).take l).length = l := by rw [List.length_take, List.length_drop]; omega
theorem nums_zeros (n : Nat) : (madeCells (Value.int .u32 0).cells (n * 1)).toList = nums (List.replicate n 0) := by
  show (madeCells #[Value.int .u32 0] (n * 1)).toList = _
  rw [toList_madeCells_one, Nat.mul_one]
  simp [nums]
theorem Own.zeros {w w' : World} {base n : Nat} (h : w'.ownsRow base 46 1 (.slice (some ⟨w.heap.size, 0, none⟩) n n) n (madeCells (Value.int .u32 0).cells (n * 1)).toList) : Own w' base (some ⟨w.heap.size, 0, none⟩) n (List.replicate n 0) := by
  rw [nums_zeros] at h
  unfold Own
  rw [List.length_replicate]
  exact h
theorem Own.of_row {w : World} {base n : Nat} {v : Value} {xs : List Int} (h : w.ownsRow base 46 1 v n (nums xs)) : ∃ A c, v = .slice A xs.length c ∧ Own w base A c xs := by
  have hl : xs.length = n := by have := h.1; simp [nums] at this; exact this
  subst hl
  rcases h.2 with ⟨rfl, h2⟩ | ⟨g, cap, cur, rfl, _⟩
  · exact ⟨none, 0, by rw [h2], by unfold Own; rw [h2] at h ⊢; exact h⟩
  · exact ⟨_, cap, rfl, h⟩
theorem nums_append (xs ys : List Int) : nums (xs ++ ys) = nums xs ++ nums ys := by simp [nums]
theorem nums_one (xs : List Int) : ∀ u ∈ nums xs, u.oneCell' = true := by
  intro u hu
  obtain ⟨x, _, rfl⟩ := List.mem_map.1 hu
  rfl
theorem wpList_app {w : World} {ops : Array Oper} {rest : List Oper} {o : Oper} {a : Act} {Q : Exit → Act → World → Prop} (hgd : o.guard = none) (s x : Operand)
    (ho : o.op = .call { callee := .builtin .append, args := #[s, x], argTypes := #[22, 22] })
    (base : Nat) (A : Option Addr) (c : Nat) (xs : List Int) (n : Nat) (hn : xs.length = n) (hs : a.eval s = .slice A n c) (hO : Own w base A c xs)
    (B : Option Addr) (d : Nat) (ys : List Int) (m : Nat) (hm : ys.length = m) (hx : a.eval x = .slice B m d) (hR : Rd w B d ys)
    (hlen : n + m ≤ 35184372088832) (hbase : base ≤ w.heap.size)
    (h : ∀ A' c' w', Own w' base A' c' (xs ++ ys) → w.grownBy w' (A.map (·.block)) → wpList Tryz.prog ops Q rest (a.put o.dst (.slice A' (n + m) c')) w') : wpList Tryz.prog ops Q (o :: rest) a w := by
  obtain ⟨i0, hi, hz0, hz1, hz2⟩ := info_parts info_u32
  subst hn
  subst hm
  have hrow : (Value.slice A xs.length c).ownBlock = A.map (·.block) := by cases A <;> rfl
  cases B with
  | none =>
    obtain rfl : d = 0 := hR.none_ rfl
    obtain rfl : ys = [] := List.eq_nil_of_length_eq_zero (Nat.le_zero.1 hR.cap)
    refine wpList_plain hgd fun K hK => ?_
    unfold Oper.wp execOp
    have hr := run_append_owned_none (P := Tryz.prog) w base 22 o.type 46 i0 1 Tryz.underlying22 hi _ _ _ hO
    simp only [ho, resolve, invoke, builtin, Sem.run_bind, Sem.run_pure, Result.andThen_ok, List.map_toArray, List.map_cons, List.map_nil, hs, hx, List.length_nil, hr]
    exact hK _ _ (h A c w (by rw [List.append_nil]; exact hO) (World.grownBy.refl w _))
  | some b =>
    refine wpList_append_own w hgd s x 22 ho base 46 i0 (.int .u32 0) 1 4 Tryz.underlying22 hi hz0 hz1 hz2 rfl (by decide) _ _ _ hs hO b ys.length d (nums ys) hx (by rw [nums_length, Nat.mul_one])
      (fun j u hu => by
        have hj : j < ys.length := by
          have := (List.getElem?_eq_some_iff.1 hu).1
          rwa [nums_length] at this
        rw [nums_at ys j hj] at hu
        cases hu
        exact hR.cell j hj) (nums_one ys) (by unfold maxLen; omega) (by omega) hbase ?_
    intro v' w' h2 h3 _
    rw [← nums_append] at h2
    obtain ⟨A', c', rfl, hO'⟩ := Own.of_row h2
    rw [hrow] at h3
    have := h A' c' w' hO' h3
    rwa [← List.length_append] at this
theorem wpList_mk {w : World} {ops : Array Oper} {rest : List Oper} {o : Oper} {a : Act} {Q : Exit → Act → World → Prop} (hgd : o.guard = none) (l k : Operand)
    (ho : o.op = Op.makeSlice 22 l k) (n : Nat) (L C : Int) (hl : a.eval l = .int .i64 L) (hc : a.eval k = .int .i64 C) (hL : L = (n : Int)) (hC : C = (n : Int)) (hn : n ≤ 70368744177664)
    (h : ∀ w', Own w' w.heap.size (some ⟨w.heap.size, 0, none⟩) n (List.replicate n 0) → Ext w w' → wpList Tryz.prog ops Q rest (a.put o.dst (.slice (some ⟨w.heap.size, 0, none⟩) n n)) w') : wpList Tryz.prog ops Q (o :: rest) a w := by
  obtain ⟨i0, hi, hz0, hz1, hz2⟩ := info_parts info_u32
  refine wpList_make_full w hgd l k _ ho w.heap.size 46 i0 (.int .u32 0) 1 Tryz.underlying22 hi hz0 hz1 .i64 .i64 L C n hl hc hL hC (by rw [hz2]; omega) (by unfold maxLen; omega) (Nat.le_refl _) ?_
  intro w' hO hg
  exact h w' (Own.zeros hO) ((Ext.refl w).grownNone hg)
theorem Own.lit (w : World) (cs : Array Value) (xs : List Int) (h : cs.toList = nums xs) (hm : xs.length ≤ 9223372036854775807) : Own (w.alloc (.cells cs 46)) w.heap.size (some ⟨w.heap.size, 0, none⟩) xs.length xs := by
  have hs : cs.size = xs.length := by rw [← Array.length_toList, h, nums_length]
  refine Own.mk (Nat.le_refl _) (heap_alloc_new w _) (Nat.le_refl _) hm hs ?_
  rw [h, List.take_of_length_le (by rw [nums_length]; exact Nat.le_refl _)]
abbrev maxI : Nat := 9223372036854775807
structure Ent where
  bl : Option Nat
  ln : Nat
  cp : Nat
  ds : List Nat
def Ent.all (e : Ent) : List Nat := e.bl.toList ++ e.ds
def Ent.has (e : Ent) (g : Nat) : Prop := g ∈ e.all
theorem Ent.has_bl {e : Ent} {g : Nat} (h : e.bl = some g) : e.has g := by unfold Ent.has Ent.all; rw [h]; simp
theorem Ent.has_one {e : Ent} (h : e.ds = []) {g : Nat} : e.has g ↔ e.bl = some g := by unfold Ent.has Ent.all; rw [h, List.append_nil]; simp
structure Cf where
  m : Nat → Option Ent
  Z : Nat → Prop
def okv : Value → Prop
  | .bool _ => True
  | .int k n => k.min ≤ n ∧ n ≤ k.max
  | .string s => s.size ≤ maxI
  | .pointer none => True
  | .nilFunc => True
  | _ => False
def MK (w : World) (s : Nat) (ms : List (List Value)) (g o : Nat) : Prop := ∀ (j : Nat) (us : List Value), ms[j]? = some us → ∀ (i : Nat) (u : Value), us[i]? = some u → w.cell? ⟨g, o + (j * s + i), none⟩ = some u
def RT (Z : Nat → Prop) (w : World) : (t : Ty) → El t → List Value → Prop
  | .bo, x, vs => vs = [.bool x]
  | .it k, x, vs => vs = [.int k x] ∧ k.min ≤ x ∧ x ≤ k.max
  | .st, x, vs => vs = [.string x] ∧ x.size ≤ maxI
  | .sl t, l, vs => ∃ A c, vs = [.slice A l.length c] ∧ l.length ≤ c ∧ c ≤ maxI ∧ (A = none → c = 0) ∧
      ∀ (j : Nat) (h : j < l.length), ∃ g o us, A = some ⟨g, o, none⟩ ∧ Z g ∧ RT Z w t (l[j]'h) us ∧ ∀ (i : Nat) (u : Value), us[i]? = some u → w.cell? ⟨g, o + (j * t.size + i), none⟩ = some u
  | .pr a b, x, vs => ∃ us us', vs = us ++ us' ∧ RT Z w a x.1 us ∧ RT Z w b x.2 us'
  | .un, _, vs => vs = []
  | .pt _, _, _ => False
  | .fn, _, _ => False
  | .lt t, l, vs => ∃ g o c, vs = [.slice (some ⟨g, o, none⟩) l.length c] ∧ l.length + (mks 4 t).length ≤ c ∧ c ≤ maxI ∧ Z g ∧
      (∀ (j : Nat) (h : j < l.length), ∃ us, RT Z w t (l[j]'h) us ∧ ∀ (i : Nat) (u : Value), us[i]? = some u → w.cell? ⟨g, o + (j * t.size + i), none⟩ = some u) ∧ MK w t.size (mks 4 t) g (o + l.length * t.size)
  | .lf t, l, vs => ∃ g o c, vs = [.slice (some ⟨g, o, none⟩) (l.length + (mks 3 t).length) c] ∧ l.length + (mks 3 t).length ≤ c ∧ c ≤ maxI ∧ Z g ∧
      (∀ (j : Nat) (h : j < l.length), ∃ us, RT Z w t (l[j]'h) us ∧ ∀ (i : Nat) (u : Value), us[i]? = some u → w.cell? ⟨g, o + (j * t.size + i), none⟩ = some u) ∧ MK w t.size (mks 3 t) g (o + l.length * t.size)
  | .oq, x, vs => vs = [x] ∧ ∃ A n c, x = .slice A n c
def RW (Z : Nat → Prop) (w : World) (t : Ty) (l : List (El t)) (g o : Nat) : Prop :=
  ∀ (j : Nat) (h : j < l.length), ∃ us, RT Z w t (l[j]'h) us ∧ ∀ (i : Nat) (u : Value), us[i]? = some u → w.cell? ⟨g, o + (j * t.size + i), none⟩ = some u
theorem RT.len {Z : Nat → Prop} {w : World} : ∀ {t : Ty} {x : El t} {vs : List Value}, RT Z w t x vs → vs.length = t.size
  | .bo, _, _, h => by rw [RT] at h; subst h; rfl
  | .it _, _, _, h => by rw [RT] at h; rw [h.1]; rfl
  | .st, _, _, h => by rw [RT] at h; rw [h.1]; rfl
  | .sl _, _, _, h => by rw [RT] at h; obtain ⟨A, c, rfl, _⟩ := h; rfl
  | .pr a b, x, _, h => by
    rw [RT] at h
    obtain ⟨us, us', rfl, h1, h2⟩ := h
    rw [List.length_append, h1.len, h2.len]; rfl
  | .un, _, _, h => by rw [RT] at h; subst h; rfl
  | .lt _, _, _, h => by rw [RT] at h; obtain ⟨g, o, c, rfl, _⟩ := h; rfl
  | .lf _, _, _, h => by rw [RT] at h; obtain ⟨g, o, c, rfl, _⟩ := h; rfl
  | .oq, _, _, h => by rw [RT] at h; obtain ⟨rfl, _⟩ := h; rfl
  | .pt _, _, _, h => by rw [RT] at h; exact h.elim
  | .fn, _, _, h => by rw [RT] at h; exact h.elim
def Stay (Z : Nat → Prop) (w w' : World) : Prop := ∀ g, Z g → w'.heap[g]? = w.heap[g]?
theorem Stay.cell {Z : Nat → Prop} {w w' : World} (h : Stay Z w w') {g o : Nat} (hz : Z g) : w'.cell? ⟨g, o, none⟩ = w.cell? ⟨g, o, none⟩ := World.cell?_of_block (a := ⟨g, o, none⟩) (h g hz)
theorem RT.mono {Z Z' : Nat → Prop} {w w' : World} (hz : ∀ g, Z g → Z' g) (hs : Stay Z w w') : ∀ {t : Ty} {x : El t} {vs : List Value}, RT Z w t x vs → RT Z' w' t x vs
  | .bo, _, _, h => by rw [RT] at h ⊢; exact h
  | .it _, _, _, h => by rw [RT] at h ⊢; exact h
  | .st, _, _, h => by rw [RT] at h ⊢; exact h
  | .sl _, _, _, h => by
    rw [RT] at h ⊢
    obtain ⟨A, c, h1, h2, h3, h4, h5⟩ := h
    refine ⟨A, c, h1, h2, h3, h4, fun j hj => ?_⟩
    obtain ⟨g, o, us, e1, e2, e3, e4⟩ := h5 j hj
    exact ⟨g, o, us, e1, hz g e2, e3.mono hz hs, fun i u hu => (hs.cell e2).trans (e4 i u hu)⟩
  | .pr _ _, _, _, h => by
    rw [RT] at h ⊢
    obtain ⟨us, us', e, h1, h2⟩ := h
    exact ⟨us, us', e, h1.mono hz hs, h2.mono hz hs⟩
  | .un, _, _, h => by rw [RT] at h ⊢; exact h
  | .lt _, _, _, h => by
    rw [RT] at h ⊢
    obtain ⟨g, o, c, h1, h2, h3, h4, h5, h6⟩ := h
    exact ⟨g, o, c, h1, h2, h3, hz g h4, fun j hj => let ⟨us, k1, k2⟩ := h5 j hj; ⟨us, k1.mono hz hs, fun i u hu => (hs.cell h4).trans (k2 i u hu)⟩, fun j us k i u hu => (hs.cell h4).trans (h6 j us k i u hu)⟩
  | .lf _, _, _, h => by
    rw [RT] at h ⊢
    obtain ⟨g, o, c, h1, h2, h3, h4, h5, h6⟩ := h
    exact ⟨g, o, c, h1, h2, h3, hz g h4, fun j hj => let ⟨us, k1, k2⟩ := h5 j hj; ⟨us, k1.mono hz hs, fun i u hu => (hs.cell h4).trans (k2 i u hu)⟩, fun j us k i u hu => (hs.cell h4).trans (h6 j us k i u hu)⟩
  | .oq, _, _, h => by rw [RT] at h ⊢; exact h
  | .pt _, _, _, h => by rw [RT] at h; exact h.elim
  | .fn, _, _, h => by rw [RT] at h; exact h.elim
theorem RW.mono {Z Z' : Nat → Prop} {w w' : World} (hz : ∀ g, Z g → Z' g) (hs : Stay Z w w') {t : Ty} {l : List (El t)} {g o : Nat} (h : RW Z w t l g o) (hg : w'.heap[g]? = w.heap[g]?) : RW Z' w' t l g o := fun j hj => by
  obtain ⟨us, e1, e2⟩ := h j hj
  exact ⟨us, e1.mono hz hs, fun i u hu => (World.cell?_of_block (a := ⟨g, _, none⟩) hg).trans (e2 i u hu)⟩
theorem RT.sl_mk {Z : Nat → Prop} {w : World} {t : Ty} {l : List (El t)} {g o c : Nat} (h : RW Z w t l g o) (hz : Z g) (h1 : l.length ≤ c) (h2 : c ≤ maxI) : RT Z w (.sl t) l [.slice (some ⟨g, o, none⟩) l.length c] := by
  rw [RT]
  refine ⟨_, c, rfl, h1, h2, (fun e => by cases e), fun j hj => ?_⟩
  obtain ⟨us, e1, e2⟩ := h j hj
  exact ⟨g, o, us, rfl, hz, e1, e2⟩
theorem RT.sl_nil (Z : Nat → Prop) (w : World) (t : Ty) : RT Z w (.sl t) [] [.slice none 0 0] := by
  rw [RT]
  exact ⟨none, 0, rfl, Nat.le_refl _, by decide, fun _ => rfl, fun j hj => absurd hj (Nat.not_lt_zero _)⟩
theorem RT.wf32 {Z : Nat → Prop} {w : World} {l : List Int} {vs : List Value} (h : RT Z w (.sl (.it .u32)) l vs) : Wf l := by
  rw [RT] at h
  obtain ⟨A, c, h1, h2, h3, h4, h5⟩ := h
  intro x hx
  obtain ⟨j, hj, rfl⟩ := List.getElem_of_mem hx
  obtain ⟨g, o, us, _, _, e3, _⟩ := h5 j hj
  rw [RT] at e3
  have := e3.2
  have h6 : IntKind.u32.min = 0 := rfl
  have h7 : IntKind.u32.max = 4294967295 := rfl
  rw [h6, h7] at this
  exact ⟨this.1, Int.lt_of_le_of_lt this.2 (by decide)⟩
def RC (c : Cf) (w : World) (v : Value) : Ce → Prop
  | .bad => v.oneCell' = true
  | .ud => v = undef
  | .tt => v = .bool true
  | .ff => v = .bool false
  | .sc u => v = u ∧ okv u
  | .nl => v = .slice none 0 0
  | .sl t l => RT c.Z w (.sl t) l [v]
  | .lt t l => RT c.Z w (.lt t) l [v]
  | .lf t l => RT c.Z w (.lf t) l [v]
  | .oq u => v = u ∧ ∃ A n k, u = .slice A n k
  | .ow i => ∃ e, c.m i = some e ∧ v = .slice (e.bl.map fun g => ⟨g, 0, none⟩) e.ln e.cp
  | .os i s a n => ∃ e A, c.m i = some e ∧ a + n ≤ e.ln ∧ v = .slice A n (e.cp - a) ∧ (a < e.cp → A = e.bl.map fun g => ⟨g, a * s, none⟩) ∧ n ≤ maxI
  | .pv i o => ∃ e g, c.m i = some e ∧ e.bl = some g ∧ v = .pointer (some ⟨g, o, none⟩)
  | .pr i t j o => ∃ e g, c.m i = some e ∧ e.bl = some g ∧ j < e.ln ∧ v = .pointer (some ⟨g, j * t.size + o, none⟩)
  | .fv f l => ∃ vs : Array Value, v = .func (.func f) #[] vs ∧ vs.size = l.length ∧ ∀ (k i : Nat), l[k]? = some i → ∃ e g, c.m i = some e ∧ e.bl = some g ∧ vs[k]? = some (.pointer (some ⟨g, 0, none⟩))
def RL (c : Cf) (w : World) (vs : List Value) (cs : List Ce) : Prop := vs.length = cs.length ∧ ∀ (i : Nat) (v : Value) (x : Ce), vs[i]? = some v → cs[i]? = some x → RC c w v x
def RP (c : Cf) (w : World) (v : Value) (p : Bool × List Ce) : Prop := if p.1 = true then ∃ us, v = .agg us ∧ RL c w us.toList p.2 else ∃ x, p.2 = [x] ∧ RC c w v x
def RA (c : Cf) (w : World) (v : Value) : AV → Prop
  | .c x => RC c w v x
  | .pe cs => ∃ g o vs, v = .pointer (some ⟨g, o, none⟩) ∧ c.Z g ∧ RL c w vs cs ∧ ∀ (i : Nat) (u : Value), vs[i]? = some u → w.cell? ⟨g, o + i, none⟩ = some u
  | .ag cs => ∃ vs, v = .agg vs ∧ RL c w vs.toList cs
  | .tu ps => ∃ vs : Array Value, v = .tuple vs ∧ vs.size = ps.length ∧ ∀ (i : Nat) (v : Value) (p : Bool × List Ce), vs[i]? = some v → ps[i]? = some p → RP c w v p
structure Cf.Le (c c' : Cf) : Prop where
  m : ∀ i e, c.m i = some e → c'.m i = some e
  Z : ∀ g, c.Z g → c'.Z g
theorem Cf.Le.refl (c : Cf) : c.Le c := ⟨fun _ _ h => h, fun _ h => h⟩
theorem Cf.Le.trans {a b c : Cf} (h : a.Le b) (k : b.Le c) : a.Le c := ⟨fun i e x => k.m i e (h.m i e x), fun g x => k.Z g (h.Z g x)⟩
section
variable {c c' : Cf} {w w' : World}
theorem RC.mono (hl : c.Le c') (hs : Stay c.Z w w') {v : Value} : ∀ {x : Ce}, RC c w v x → RC c' w' v x
  | .bad, h => h
  | .ud, h => h
  | .tt, h => h
  | .ff, h => h
  | .sc _, h => h
  | .nl, h => h
  | .sl _ _, h => RT.mono hl.Z hs h
  | .lt _ _, h => RT.mono hl.Z hs h
  | .lf _ _, h => RT.mono hl.Z hs h
  | .oq _, h => h
  | .ow _, h => let ⟨e, h1, h2⟩ := h; ⟨e, hl.m _ _ h1, h2⟩
  | .os _ _ _ _, h => let ⟨e, A, h1, h2⟩ := h; ⟨e, A, hl.m _ _ h1, h2⟩
  | .pv _ _, h => let ⟨e, g, h1, h2⟩ := h; ⟨e, g, hl.m _ _ h1, h2⟩
  | .pr _ _ _ _, h => let ⟨e, g, h1, h2⟩ := h; ⟨e, g, hl.m _ _ h1, h2⟩
  | .fv _ _, h => let ⟨vs, h1, h2, h3⟩ := h; ⟨vs, h1, h2, fun k i hk => let ⟨e, g, e1, e2⟩ := h3 k i hk; ⟨e, g, hl.m _ _ e1, e2⟩⟩
theorem RL.mono (hl : c.Le c') (hs : Stay c.Z w w') {vs : List Value} {cs : List Ce} (h : RL c w vs cs) : RL c' w' vs cs := ⟨h.1, fun i v x h1 h2 => (h.2 i v x h1 h2).mono hl hs⟩
theorem RP.mono (hl : c.Le c') (hs : Stay c.Z w w') {v : Value} {p : Bool × List Ce} (h : RP c w v p) : RP c' w' v p := by
  unfold RP at h ⊢
  split
  · rename_i hp; rw [if_pos hp] at h; obtain ⟨us, h1, h2⟩ := h; exact ⟨us, h1, h2.mono hl hs⟩
  · rename_i hp; rw [if_neg hp] at h; obtain ⟨x, h1, h2⟩ := h; exact ⟨x, h1, h2.mono hl hs⟩
theorem RA.mono (hl : c.Le c') (hs : Stay c.Z w w') {v : Value} : ∀ {x : AV}, RA c w v x → RA c' w' v x
  | .c _, h => RC.mono hl hs h
  | .pe _, h => let ⟨g, o, vs, h1, h2, h3, h4⟩ := h; ⟨g, o, vs, h1, hl.Z g h2, h3.mono hl hs, fun i u hu => (hs.cell h2).trans (h4 i u hu)⟩
  | .ag _, h => let ⟨vs, h1, h2⟩ := h; ⟨vs, h1, h2.mono hl hs⟩
  | .tu _, h => let ⟨vs, h1, h2, h3⟩ := h; ⟨vs, h1, h2, fun i v p e1 e2 => (h3 i v p e1 e2).mono hl hs⟩
theorem RL.nil : RL c w [] [] := ⟨rfl, fun i v x h => by simp at h⟩
theorem RL.cons {v : Value} {x : Ce} {vs : List Value} {cs : List Ce} (h : RC c w v x) (k : RL c w vs cs) : RL c w (v :: vs) (x :: cs) := ⟨by simp [k.1], fun i u y h1 h2 => by
  cases i with
  | zero => simp at h1 h2; subst h1 h2; exact h
  | succ i => simp at h1 h2; exact k.2 i u y h1 h2⟩
theorem RL.one {v : Value} {x : Ce} (h : RC c w v x) : RL c w [v] [x] := RL.cons h RL.nil
theorem RL.append {us vs : List Value} {cs ds : List Ce} (h : RL c w us cs) (k : RL c w vs ds) : RL c w (us ++ vs) (cs ++ ds) := ⟨by simp [h.1, k.1], fun i v x h1 h2 => by
  by_cases hi : i < us.length
  · rw [List.getElem?_append_left hi] at h1
    rw [List.getElem?_append_left (by rw [← h.1]; exact hi)] at h2
    exact h.2 i v x h1 h2
  · rw [List.getElem?_append_right (by omega)] at h1
    rw [List.getElem?_append_right (by rw [← h.1]; omega), ← h.1] at h2
    exact k.2 _ v x h1 h2⟩
theorem RL.take {vs : List Value} {cs : List Ce} (h : RL c w vs cs) (n : Nat) : RL c w (vs.take n) (cs.take n) := ⟨by simp [h.1], fun i v x h1 h2 => by
  rw [List.getElem?_take] at h1 h2
  split at h1
  · rename_i hi; rw [if_pos hi] at h2; exact h.2 i v x h1 h2
  · cases h1⟩
theorem RL.drop {vs : List Value} {cs : List Ce} (h : RL c w vs cs) (n : Nat) : RL c w (vs.drop n) (cs.drop n) := ⟨by simp [h.1], fun i v x h1 h2 => by
  rw [List.getElem?_drop] at h1 h2
  exact h.2 _ v x h1 h2⟩
theorem RL.over {vs us : List Value} {cs xs : List Ce} (h : RL c w vs cs) (k : RL c w us xs) (o : Nat) : RL c w (vs.take o ++ us ++ vs.drop (o + us.length)) (overC cs o xs) := by
  unfold overC
  rw [k.1]
  exact ((h.take o).append k).append (h.drop _)
theorem RT.cel : ∀ {t : Ty} {x : El t} {vs : List Value}, RT c.Z w t x vs → RL c w vs (cel t x)
  | .bo, x, _, h => by rw [RT] at h; subst h; exact RL.one ⟨rfl, trivial⟩
  | .it k, x, _, h => by rw [RT] at h; obtain ⟨rfl, h2⟩ := h; exact RL.one ⟨rfl, h2⟩
  | .st, x, _, h => by rw [RT] at h; obtain ⟨rfl, h2⟩ := h; exact RL.one ⟨rfl, h2⟩
  | .sl t, l, vs, h => by
    have h' := h
    rw [RT] at h
    obtain ⟨A, n, rfl, _⟩ := h
    exact RL.one h'
  | .pr a b, x, _, h => by
    rw [RT] at h
    obtain ⟨us, us', rfl, h1, h2⟩ := h
    exact h1.cel.append h2.cel
  | .un, _, _, h => by rw [RT] at h; subst h; exact RL.nil
  | .lt t, l, vs, h => by
    have h' := h
    rw [RT] at h
    obtain ⟨g, o, c, rfl, _⟩ := h
    exact RL.one h'
  | .lf t, l, vs, h => by
    have h' := h
    rw [RT] at h
    obtain ⟨g, o, c, rfl, _⟩ := h
    exact RL.one h'
  | .oq, x, vs, h => by
    rw [RT] at h
    obtain ⟨rfl, k⟩ := h
    exact RL.one ⟨rfl, k⟩
  | .pt _, _, _, h => by rw [RT] at h; exact h.elim
  | .fn, _, _, h => by rw [RT] at h; exact h.elim
end
end Go.Proofs.YtjoonfegjobgbaaGreatDoor
