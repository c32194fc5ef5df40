/- How configs are read, in plain Lean. No condition. -/
import Derived.Test.YtfbhdkkmcfnghaaGreatDoorCfText
import Derived.Test.YtfbhdkkmcfnghaaGreatDoorPgLaw
import Derived.Test.YtfbhdkkmcfnghaaGreatDoorTsLaw
namespace Go.Proofs.YtfbhdkkmcfnghaaGreatDoor
set_option linter.unusedVariables false
namespace Cf
def numGo : List UInt8 → Nat → Option Nat
  | [], n => some n
  | b :: t, n => if 48 ≤ b.toNat ∧ b.toNat ≤ 57 then numGo t (10 * n + (b.toNat - 48)) else none
/-- A word as a number. -/
def num (s : List UInt8) : Option Nat := if s = [] ∨ 6 < s.length ∨ (1 < s.length ∧ s.head? = some 48) then none else numGo s 0
/-- A number, and one word more. -/
def two (rest : List UInt8) : Option (Nat × List UInt8) :=
  if 32 ∈ rest ∧ 32 ∉ (Pg.cut rest).2 then (match num (Pg.cut rest).1 with | some n => some (n, (Pg.cut rest).2) | none => none) else none
def pair (rest : List UInt8) : Option (Nat × Nat) :=
  match two rest with
  | some (n, b) => (match num b with | some m => some (n, m) | none => none)
  | none => none
def single (line : List UInt8) : Bool := line.count 32 == 1 && !decide (32 ∈ (Pg.cut line).2)
/-- The predicate of a line. -/
def predL (line : List UInt8) : Option Pd :=
  let a := (Pg.cut line).1
  let b := (Pg.cut line).2
  if a = Pd.word 5 then (if 32 ∈ b then some ⟨5, (Pg.cut b).1, (Pg.cut b).2⟩ else none)
  else if a = Pd.word 6 then (if single line = true then some ⟨6, b, []⟩ else none)
  else if a = Pd.word 1 then (if single line = true then some ⟨1, [], b⟩ else none)
  else if a = Pd.word 2 then (if single line = true then some ⟨2, [], b⟩ else none)
  else if a = Pd.word 3 then (if single line = true then some ⟨3, [], b⟩ else none)
  else if a = Pd.word 4 then (if single line = true then some ⟨4, [], b⟩ else none)
  else none
def wRule : List UInt8 := [114, 117, 108, 101]
def wTo : List UInt8 := [116, 111]
def wEnd : List UInt8 := [101, 110, 100]
def wFormat : List UInt8 := [102, 111, 114, 109, 97, 116]
def wAbort : List UInt8 := [97, 98, 111, 114, 116]
def wDelay : List UInt8 := [100, 101, 108, 97, 121]
def wMirror : List UInt8 := [109, 105, 114, 114, 111, 114]
def wSample : List UInt8 := [115, 97, 109, 112, 108, 101]
/-- What may stand behind a target: which, whether it may be, and the rule with it. -/
def opt (x : Ru) (line : List UInt8) : Nat × Bool × Ru :=
  let a := (Pg.cut line).1
  let b := (Pg.cut line).2
  if a = wAbort then (match pair b with | some (n, m) => (1, true, { x with ap := n, st := m }) | none => (1, false, x))
  else if a = wDelay then (match pair b with | some (n, m) => (2, true, { x with dp := n, dt := m }) | none => (2, false, x))
  else if a = wMirror then (match two b with | some (n, m) => (3, true, { x with mp := n, mi := m }) | none => (3, false, x))
  else if a = wSample then (match num b with | some n => (4, true, { x with sm := n }) | none => (4, false, { x with sm := 0 }))
  else (0, false, x)
/-- Predicates, and the target: the rule, the next line's place, whether they may be. -/
def predsR : Nat → List (List UInt8) → Ru → Ru × Nat × Bool
  | k, [], x => (x, k, false)
  | k, l :: t, x =>
    if (Pg.cut l).1 = wTo then (if single l = true then ({ x with tg := (Pg.cut l).2 }, k + 1, true) else (x, k, false))
    else match predL l with
      | some p => predsR (k + 1) t { x with ps := x.ps ++ [p] }
      | none => (x, k, false)
def optsR : Nat → List (List UInt8) → Ru → Nat → Ru × Nat × Bool
  | k, [], x, _ => (x, k, true)
  | k, l :: t, x, last =>
    let o := opt x l
    if o.1 = 0 then (x, k, true)
    else if o.2.1 = false ∨ o.1 ≤ last then (o.2.2, k, false)
    else optsR (k + 1) t o.2.2 o.1
def newRu (n : Nat) : Ru := ⟨n, [], [], 0, 0, 0, 0, 0, [], 0⟩
/-- A rule, from its first line on. -/
def ruleR (L : List (List UInt8)) (k : Nat) : Ru × Nat × Bool :=
  match num (Pg.cut (L.getD k [])).2 with
  | none => (newRu 0, k, false)
  | some n =>
    let p := predsR (k + 1) (L.drop (k + 1)) (newRu n)
    if p.2.2 = true then optsR p.2.1 (L.drop p.2.1) p.1 0 else p
/-- All rules, and the end. -/
def bodyR (L : List (List UInt8)) : Nat → Nat → List Ru → List Ru × Nat × Bool
  | 0, k, rs => (rs, k, false)
  | n + 1, k, rs =>
    let a := (Pg.cut (L.getD k [])).1
    if a = wRule then (if (ruleR L k).2.2 = true then bodyR L n (ruleR L k).2.1 (rs ++ [(ruleR L k).1]) else (rs, (ruleR L k).2.1, false))
    else if a = wEnd then (if L.getD k [] = wEnd then (rs, k + 1, decide (k + 1 = L.length)) else (rs, k, false))
    else (rs, k, false)
def fmtR (L : List (List UInt8)) : List UInt8 × Nat :=
  if (Pg.cut (L.getD 0 [])).1 = wFormat ∧ (Pg.cut (L.getD 0 [])).2 ≠ [] then ((Pg.cut (L.getD 0 [])).2, 1) else ([], 0)
def linesR (L : List (List UInt8)) : List Ru × Nat × Bool := bodyR L (L.length + 1) (fmtR L).2 []
/-- The config of a text, or at which line there is none, and why. -/
def read (text : List UInt8) : Cf × Nat × Nat :=
  if 4096 < text.length then (⟨[], []⟩, 0, 6) else
  let l := Ts.pieces 10 text
  let L := l.dropLast
  let r := linesR L
  if r.2.2 = false ∨ l.getLastD [] ≠ [] then (⟨[], []⟩, r.2.1 + 1, 3)
  else if check ⟨r.1, (fmtR L).1⟩ ≠ 0 then (⟨[], []⟩, 0, check ⟨r.1, (fmtR L).1⟩)
  else (⟨r.1, (fmtR L).1⟩, 0, 0)
end Cf
end Go.Proofs.YtfbhdkkmcfnghaaGreatDoor
