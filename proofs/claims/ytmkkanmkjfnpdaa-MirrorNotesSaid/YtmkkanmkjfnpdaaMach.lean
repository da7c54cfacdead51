/-
  THE DOCUMENT's MACHINE (package patchbayref00) as plain Lean: instructions, threads, worlds, plays. No program in sight. (Instructions on silent lists and silent words are left out: no call of this part uses them.)
-/
import Derived.Test.YtmkkanmkjfnpdaaFo
set_option linter.unusedVariables false
namespace Go.PB.Mach

/-- an instruction -/
structure In where
  op : Nat
  on : Nat := 0
  a : Nat := 0
  b : Nat := 0
  c : Nat := 0
  d : Nat := 0
  n : Nat := 0

structure Cl where
  code : List In
  data : List Nat := []

structure Wd where
  words : List (List Nat)
  nl : Nat

structure Th where
  calls : List Cl
  call : Nat := 0
  pc : Nat := 0
  r : Nat → Nat := fun _ => 0
  ans : List (Bool × List Nat) := []
  over : Bool := false

def fin : In := { op := 23 }
def Th.cl (t : Th) : Cl := t.calls.getD t.call { code := [] }
def Th.next (t : Th) : In := t.cl.code.getD t.pc fin
def Th.put (t : Th) (i v : Nat) : Th := { t with r := upd t.r i (v % 18446744073709551616) }
def Th.tell (t : Th) (v : Nat) : Th := { t with ans := t.ans.modify t.call fun y => (y.1, y.2 ++ [v]) }

/-- worlds that may be -/
structure Wd.ok (w : Wd) : Prop where
  n : w.words.length < 1000000
  nl : w.nl < 1000000
  len : ∀ l ∈ w.words, l.length < 1000000
  lt : ∀ l ∈ w.words, ∀ v ∈ l, v < 18446744073709551616

/-- one instruction of the thread's own -/
def own (t0 : Th) (x : In) : Th :=
  let t := { t0 with pc := t0.pc + 1 }
  match x.op with
  | 6 => t.put x.a x.n
  | 7 => t.put x.a (t.r x.b)
  | 8 => t.put x.a (t.r x.b + t.r x.c + x.n)
  | 9 => t.put x.a (t.r x.b + 18446744073709551616 - t.r x.c)
  | 10 => t.put x.a (t.r x.b * t.r x.c)
  | 11 => t.put x.a (if t.r x.c = 0 then 0 else t.r x.b / t.r x.c)
  | 12 => t.put x.a (t.r x.b &&& t.r x.c)
  | 13 => t.put x.a (t.r x.b ||| t.r x.c)
  | 14 => t.put x.a (t.r x.b * 2 ^ x.n)
  | 15 => t.put x.a (t.r x.b / 2 ^ x.n)
  | 16 => t.put x.a (max (t.r x.b) (t.r x.c))
  | 17 => t.put x.a (t.cl.data.getD ((t.r x.b + x.n) % 18446744073709551616) 0)
  | 18 => { t with pc := x.n }
  | 19 => if t.r x.a = t.r x.b then { t with pc := x.n } else t
  | 20 => if t.r x.a < t.r x.b then { t with pc := x.n } else t
  | 21 => if 9223372036854775808 ≤ t.r x.a then { t with pc := x.n } else t
  | 22 => t.tell (t.r x.a)
  | _ => t

def told (op : Nat) : Bool := 1 ≤ op && op ≤ 5

/-- a call's answer is begun -/
def Th.begun (t : Th) : Th := if t.ans.length = t.call then { t with ans := t.ans ++ [(false, [])] } else t
/-- a call is done -/
def Th.done (t : Th) : Th := { t with ans := t.ans.modify t.call fun y => (true, y.2), call := t.call + 1, pc := 0, r := fun _ => 0 }

/-- on, to the next operation that is told, or to the thread's end; none: so many instructions do not suffice -/
def onF : Nat → Th → Option Th
  | 0, _ => none
  | f + 1, t =>
    if t.over = true then some t
    else if t.calls.length ≤ t.call then some { t with over := true }
    else if told t.begun.next.op = true then some t.begun
    else if t.begun.next.op = 23 then onF f t.begun.done
    else onF f (own t.begun t.begun.next)

def Th.place (t : Th) : Nat := (t.r t.next.b + t.next.n) % 18446744073709551616

/-- what an operation on the row l of words at place p makes of the row, and of the registers -/
def op1 (x : In) (l : List Nat) (p : Nat) (r : Nat → Nat) : List Nat × (Nat → Nat) :=
  let v := l.getD p 0
  match x.op with
  | 1 => (l, upd r x.a v)
  | 2 => (l.set p (r x.a), r)
  | 3 => (l.set p ((v + r x.c) % 18446744073709551616), upd r x.a ((v + r x.c) % 18446744073709551616))
  | 4 => (l.set p (r x.c), upd r x.a v)
  | _ => if v = r x.c then (l.set p (r x.d), upd r x.a 1) else (l, upd r x.a 0)

def Wd.row (w : Wd) (on : Nat) : List Nat := w.words.getD on []

/-- an operation that is told; none: there is no such word, or it does not come on -/
def opF (f : Nat) (w : Wd) (t : Th) : Option (Wd × Th) :=
  if t.place < (w.row t.next.on).length then
    let y := op1 t.next (w.row t.next.on) t.place t.r
    (onF f { t with pc := t.pc + 1, r := y.2 }).map fun t' => ({ w with words := w.words.set t.next.on y.1 }, t')
  else none

/-- its mark -/
def Th.mark (t : Th) : Nat × Nat := (t.next.op, t.place)

/-- threads that play: the world, the threads, the turns so far -/
structure St where
  w : Wd
  l : List Th
  tr : List (Nat × Nat × Nat) := []

/-- thread k has a turn -/
def turn (f : Nat) (s : St) (k : Nat) : Option St :=
  match s.l[k]? with
  | some t => (opF f s.w t).map fun y => ⟨y.1, s.l.set k y.2, s.tr ++ [(k, t.mark)]⟩
  | none => some s

def may (s : St) (k : Nat) : Bool := s.tr.length < 16384 && (match s.l[k]? with | some t => !t.over | none => false)

/-- by an order (a number that is no thread's: above all) -/
def byOrder (f : Nat) : St → List (Option Nat) → Option St
  | s, [] => some s
  | s, none :: o => byOrder f s o
  | s, some k :: o => if may s k = true then (turn f s k).bind fun s => byOrder f s o else byOrder f s o

/-- one round from thread k on: was there one left? -/
def round (f : Nat) : Nat → Nat → St → Bool → Option (St × Bool)
  | 0, _, s, q => some (s, q)
  | m + 1, k, s, q => if may s k = true then (turn f s k).bind fun s => round f m (k + 1) s true else round f m (k + 1) s q

def rounds (f : Nat) : Nat → St → Option St
  | 0, _ => none
  | g + 1, s => (round f s.l.length 0 s false).bind fun y => if y.2 = true then rounds f g y.1 else some y.1

/-- all threads on, up to their first operations -/
def begin_ (f : Nat) : List Th → Option (List Th)
  | [] => some []
  | t :: l => (onF f t).bind fun t => (begin_ f l).map fun l => t :: l

def play (f g : Nat) (w : Wd) (o : List (Option Nat)) (l : List (List Cl)) : Option St :=
  (begin_ f (l.map fun c => { calls := c })).bind fun l => (byOrder f ⟨w, l, []⟩ o).bind fun s => rounds f g s

/-- what may stand in a call -/
def In.ok (x : In) : Bool := 1 ≤ x.op && x.op ≤ 23 && x.a < 24 && x.b < 24 && x.c < 24 && x.d < 24 && x.on < 1000 && x.n < 18446744073709551616 && (!(18 ≤ x.op && x.op ≤ 21) || x.n < 1000000) && (!(x.op = 17) || !(x.a = x.b)) && (!(x.op = 14 || x.op = 15) || x.n < 64)
def Cl.ok (c : Cl) : Bool := c.code.all In.ok && c.data.all (fun v => v < 18446744073709551616) && c.code.length < 1000000 && c.data.length < 1000000

end Go.PB.Mach
