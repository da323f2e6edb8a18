/- Words for walks by hand: '[]byte(s)' and a loop over it. -/
import Derived.Test.YtldoaommikclbaaWWords
import Derived.Test.YtldoaommikclbaaWMore
import Derived.Lib.ConvBytes
import Derived.Lib.Hide
import Derived.WalkKit
import Derived.Laws.Closers25b
import Derived.Great.BuildSlice
import Derived.Deep.WholeRow
import Derived.ChangeKeysEq
namespace Go.Proofs.Ytldoaommikclbaa.Conv
open Go.RowKit Go.Proofs.YtldoaommikclbaaW.PrintWords
set_option linter.unusedVariables false
set_option linter.unusedSimpArgs false

/-! ### what is written for a byte of a word -/
def plainB (c : Int) : Bool := decide (32 < c) && decide (c < 127) && c != 37
def digU (n : Int) : Int := if n < 10 then 48 + n else 55 + n
def encB (c : Int) : List Int := if plainB c then [c] else [37, digU (c / 16), digU (c % 16)]
def wordL (l : List Int) : List Int := if l = [] then [37] else l.flatMap encB
theorem isEmpty_bne (l : List UInt8) : Value.bool (!l.isEmpty) = Value.bool (l != []) := by cases l <;> rfl
theorem less_flip : ∀ a b : List UInt8, (!(Op.bytesLess a b || a == b)) = Op.bytesLess b a
  | [], [] => rfl
  | [], _ :: _ => rfl
  | _ :: _, [] => rfl
  | a :: x, b :: y => by
    have ih := less_flip x y
    rcases UInt8.lt_or_lt_of_ne (a := a) (b := b) |> fun f => (Decidable.em (a = b)).imp id f with h | h | h
    · subst h
      have h1 : ¬ a < a := UInt8.lt_irrefl a
      simp only [Op.bytesLess, h1, decide_false, Bool.false_or, BEq.rfl, Bool.true_and, List.cons_beq_cons]
      exact ih
    · have h1 : ¬ b < a := fun k => UInt8.lt_irrefl a (UInt8.lt_trans h k)
      have h2 : (b == a) = false := beq_false_of_ne (fun e => UInt8.lt_irrefl a (e ▸ h))
      simp [Op.bytesLess, h, h1, h2]
    · have h1 : ¬ a < b := fun k => UInt8.lt_irrefl a (UInt8.lt_trans k h)
      have h2 : (a == b) = false := beq_false_of_ne (fun e => UInt8.lt_irrefl a (e ▸ h))
      simp [Op.bytesLess, h, h1, h2]
theorem gtr_less (t : TypeId) (a b : ByteArray) : binOp .gtr t (.string a) (.string b) = pure (.bool (Op.bytesLess b.toList a.toList)) := by
  rw [← less_flip]
  simp [binOp, Op.stringOp]
/-! ### what is read of a word -/
def hexV (c : Int) : Int × Bool := if 48 ≤ c ∧ c ≤ 57 then (c - 48, true) else if 65 ≤ c ∧ c ≤ 70 then (c - 55, true) else (0, false)
def readGo : List Int → Option (List Int)
  | [] => some []
  | c :: r =>
    if c = 37 then
      match r with
      | a :: b :: r' => if (hexV a).2 = true ∧ (hexV b).2 = true ∧ plainB ((hexV a).1 * 16 + (hexV b).1) = false then (readGo r').map (((hexV a).1 * 16 + (hexV b).1) :: ·) else none
      | _ => none
    else if plainB c then (readGo r).map (c :: ·) else none
def readL (l : List Int) : List Int × Bool := if l = [37] then ([], true) else match readGo l with
  | none => ([], false)
  | some r => (r, decide (l ≠ []))
/-! ### one block written, the rest as it was -/
structure Put (g : Nat) (w w1 : World) : Prop where
  os : w1.os = w.os
  tape : w1.tape = w.tape
  output : w1.output = w.output
  size : w1.heap.size = w.heap.size
  block : ∀ k, k ≠ g → w1.heap[k]? = w.heap[k]?
theorem put_setCell (w : World) (p : Addr) (u : Value) : Put p.block w (w.setCell p u) := ⟨rfl, rfl, rfl, by simp [World.setCell], fun k hk => Below.heap_setCell w p u k hk⟩
theorem Put.trans {g : Nat} {a b c : World} (h : Put g a b) (k : Put g b c) : Put g a c := ⟨k.os.trans h.os, k.tape.trans h.tape, k.output.trans h.output, k.size.trans h.size, fun i hi => (k.block i hi).trans (h.block i hi)⟩
theorem Put.below {g B : Nat} {a w w1 : World} (h : Put g w w1) (hb : Below B a w) (hg : B ≤ g) : Below B a w1 :=
  hb.trans ⟨h.os, h.tape, h.output, by rw [h.size]; exact Nat.le_refl _, fun k hk => h.block k (by omega)⟩
theorem Put.R {α : Type} {d : Kd α} {e base g t : Nat} {ok : Nat → Prop} {v : Value} {xs : List α} {w w1 : World} {cells : Array Value} (h : Put g w w1) (hR : Kd.R d e w base ok v xs) (hb : w.heap[g]? = some (.cells cells t (0, 0))) (ht : ∀ q, q ∈ e :: d.E → q ≠ t) : Kd.R d e w1 base ok v xs :=
  Kd.R_mono (Kd.R_step (Kd.R_types hR hb ht) (fun k hk _ => h.block k hk.2)) (fun _ hk => hk.1)
theorem Put.blk {g k : Nat} {o : Obj} {w w1 : World} (h : Put g w w1) (hb : w.heap[k]? = some o) (hk : k ≠ g) : w1.heap[k]? = some o := (h.block k hk).trans hb
theorem C_lit {α : Type} {enc : α → Value} {h1 : ∀ x : α, (enc x).oneCell' = true} {w : World} {g : Nat} {e : TypeId} {fr : Nat × Nat} {xs : List α} (hb : w.heap[g]? = some (.cells (encs enc xs).toArray e fr)) (hl : xs.length ≤ 9223372036854775807) : (Kd.scalar enc h1).C w (some ⟨g, 0, none⟩) xs.length xs := by
  refine ⟨rfl, hl, fun _ => ⟨⟨g, 0, none⟩, rfl, fun j p hj => ⟨[enc p], rfl, rfl, fun i u hu => ?_⟩⟩⟩
  have hi : i = 0 := by
    have := (List.getElem?_eq_some_iff.1 hu).1
    simp at this
    exact this
  subst hi
  have e1 : (⟨g, 0, none⟩ : Addr).add (j * 1 + 0) = ⟨g, j, none⟩ := by
    unfold Addr.add
    by_cases h : j = 0 <;> simp [h]
  show w.cell? ((⟨g, 0, none⟩ : Addr).add (j * 1 + 0)) = _
  rw [e1, cell_of_row w g j _ e fr hb, List.getElem?_toArray]
  unfold encs
  rw [List.getElem?_map, hj]
  exact hu
section
variable {P : Program} {ops : Array Oper} {rest : List Oper} {o : Oper} {a : Act} {w : World} {Q : Exit → Act → World → Prop}
end
/-! ### the digits of a number in sixteen places -/
def digX (n : Int) : Int := if n < 10 then 48 + n else 87 + n
def hexD (n : Int) (j : Nat) : Int := digX (n / 16 ^ (15 - j) % 16)
def hexL (n : Int) : List Int := (List.range 16).map (hexD n)
/-! ### '==' of arrays as one Bool -/
section
variable {P : Program} {d : Nat} {xs ys : Array Value} {e : TypeId} {c : Nat} {a b : Value} {r s : Bool} {w : World} {j : Nat} {is : List Nat}
end
end Go.Proofs.Ytldoaommikclbaa.Conv
