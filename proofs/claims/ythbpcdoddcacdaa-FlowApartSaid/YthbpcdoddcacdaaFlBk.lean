/- Books that a flow is run with: none, or those of the program; walks of Get and Put at either. Conditions: the books' memory. -/
import Derived.Test.YthbpcdoddcacdaaBkKnown
import Derived.Test.YthbpcdoddcacdaaFlAns
namespace Go.Proofs.Ythbpcdoddcacdaa
open Go.RowKit
set_option linter.unusedVariables false

/-- Values in books are not longer than m. -/
def Bk.St.Vals (S : Bk.St) (m : Nat) : Prop := ∀ n s, ∀ p ∈ S.bk n s, p.2.length ≤ m
def BkS (w : World) (bp : Option Addr) (F : Nat → Prop) (S : Option Bk.St) (c : Nat) : Prop :=
  (bp = none ∧ S = none) ∨ ∃ g S0, bp = some ⟨g, 0, none⟩ ∧ S = some S0 ∧ BKs w F g S0 c
def getO (S : Option Bk.St) (n : Int) (s : Bool) (k : Txt) : Txt := match S with | none => [] | some S => (Bk.get (S.of n s) k).getD []
def hasO (S : Option Bk.St) (n : Int) (s : Bool) (k : Txt) : Bool := match S with | none => false | some S => Bk.has (S.of n s) k
def putO (S : Option Bk.St) (n : Int) (s : Bool) (k v : Txt) : Option Bk.St := S.map fun S => (S.put n s k v).1
def putR (S : Option Bk.St) (n : Int) (s : Bool) (k v : Txt) : Bool := match S with | none => false | some S => (S.put n s k v).2
theorem BkS.keep {w w' : World} {bp : Option Addr} {F : Nat → Prop} {S : Option Bk.St} {c : Nat} (h : BkS w bp F S c) (hb : Below w.heap.size w w') : BkS w' bp F S c :=
  h.imp id fun ⟨g, S0, h1, h2, h3⟩ => ⟨g, S0, h1, h2, h3.keep hb⟩
theorem BkS.turn {w w' : World} {bp : Option Addr} {F F' : Nat → Prop} {S : Option Bk.St} {c : Nat} (h : BkS w bp F S c) (ht : Turn F' w w') (hF : ∀ k, F k → ¬ F' k) : BkS w' bp F S c :=
  h.imp id fun ⟨g, S0, h1, h2, h3⟩ => ⟨g, S0, h1, h2, h3.turn ht hF⟩
theorem BkS.mono {w : World} {bp : Option Addr} {F : Nat → Prop} {S : Option Bk.St} {c c' : Nat} (h : BkS w bp F S c) (hc : c ≤ c') : BkS w bp F S c' :=
  h.imp id fun ⟨g, S0, h1, h2, h3⟩ => ⟨g, S0, h1, h2, h3.mono hc⟩
theorem bkGetO (w : World) (bp : Option Addr) (F : Nat → Prop) (S : Option Bk.St) (c : Nat) (n : Int) (s : Bool) (k : Txt) (h : BkS w bp F S c) (hk : k.length ≤ maxLen) :
    Calls Try.prog 52 #[.pointer bp, .int .i64 n, .bool s, .string (bs k)] w fun e w' => e = .returned (.tuple #[.string (bs (getO S n s k)), .bool (hasO S n s k)]) ∧ Below w.heap.size w w' := by
  rcases h with ⟨rfl, rfl⟩ | ⟨g, S0, rfl, rfl, h⟩
  · refine (bkGet_nil n s _ w).mono ?_
    rintro e w' ⟨rfl, hw⟩
    exact ⟨rfl, hw ▸ Below.self _⟩
  · exact bkGet_any w F g c S0 n s k h hk
theorem bkPutO (w : World) (bp : Option Addr) (F : Nat → Prop) (S : Option Bk.St) (c : Nat) (n : Int) (s : Bool) (k v : Txt) (h : BkS w bp F S c) (hc : c < 1000000) (hk : k.length ≤ maxLen) (hv : v.length ≤ maxLen) :
    Calls Try.prog 50 #[.pointer bp, .int .i64 n, .bool s, .string (bs k), .string (bs v)] w fun e w' => e = .returned (.bool (putR S n s k v)) ∧ ∃ F', BkS w' bp F' (putO S n s k v) (c + 1) ∧ (∀ k, F' k → F k ∨ w.heap.size ≤ k) ∧ Turn F w w' := by
  rcases h with ⟨rfl, rfl⟩ | ⟨g, S0, rfl, rfl, h⟩
  · refine (bkPut_nil n s _ _ w).mono ?_
    rintro e w' ⟨rfl, hw⟩
    subst hw
    exact ⟨rfl, F, .inl ⟨rfl, rfl⟩, fun k hk => .inl hk, Turn.refl _ _⟩
  · refine (bkPut_any w F g c S0 n s k v h hc hk hv).mono ?_
    rintro e w' ⟨he, F', h1, h2, h3⟩
    exact ⟨he, F', .inr ⟨g, _, rfl, rfl, h1⟩, h2, h3⟩
end Go.Proofs.Ythbpcdoddcacdaa
