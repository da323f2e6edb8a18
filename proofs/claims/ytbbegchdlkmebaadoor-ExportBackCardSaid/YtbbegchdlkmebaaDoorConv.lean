/- Words for walks by hand: '[]byte(s)' and a loop over it. -/
import Derived.Test.YtbbegchdlkmebaaDoorWWords
import Derived.Test.YtbbegchdlkmebaaDoorWMore
import Derived.Lib.ConvBytes
import Derived.Lib.Hide
import Derived.WalkKit
import Derived.Laws.Closers25b
import Derived.Great.BuildSlice
import Derived.Deep.WholeRow
import Derived.ChangeKeysEq
namespace Go.Proofs.YtbbegchdlkmebaaDoor.Conv
open Go.RowKit Go.Proofs.YtbbegchdlkmebaaDoorW.PrintWords
set_option linter.unusedVariables false
set_option linter.unusedSimpArgs false

theorem below_bytes (w : World) (e : TypeId) (s : ByteArray) : Below w.heap.size w (Lib.bytesWorld w e s) :=
  (Below.refl w.heap.size w).grown (row := none) ⟨rfl, rfl, rfl, by rw [Lib.bytesWorld_size]; omega, fun k hk _ => Lib.bytesWorld_at_old w e s k hk⟩ (Nat.le_refl _) (by simp)
theorem bytesOf_len (s : ByteArray) : (bytesOf s).length = s.size := by
  show (s.data.toList.map _).length = s.data.size
  rw [List.length_map, Array.length_toList]
theorem bytesOf_get (s : ByteArray) (k : Nat) (h : k < s.size) : (bytesOf s)[k]? = some (((s.data.toList.getD k 0).toNat : Int)) := by
  have h2 : k < s.data.toList.length := by
    rw [Array.length_toList]
    exact h
  show (s.data.toList.map _)[k]? = _
  rw [List.getElem?_map, List.getElem?_eq_getElem h2, List.getD, List.getElem?_eq_getElem h2]
  rfl
theorem byte_range (s : ByteArray) (k : Nat) : (0 : Int) ≤ ((s.data.toList.getD k 0).toNat : Int) ∧ ((s.data.toList.getD k 0).toNat : Int) ≤ 255 := by
  have := (s.data.toList.getD k 0).toNat_lt
  omega
theorem take_succ_all {p : Int → Bool} (s : ByteArray) (k : Nat) (h : k < s.size) (h1 : ((bytesOf s).take k).all p = true) (h2 : p ((s.data.toList.getD k 0).toNat : Int) = true) : ((bytesOf s).take (k + 1)).all p = true := by
  rw [List.take_add_one, bytesOf_get s k h, List.all_append, h1]
  simp only [Option.toList_some, List.all_cons, List.all_nil, Bool.and_true, Bool.true_and]
  exact h2
theorem all_false {p : Int → Bool} (s : ByteArray) (k : Nat) (h : k < s.size) (h2 : p ((s.data.toList.getD k 0).toNat : Int) = false) : (bytesOf s).all p = false := by
  rw [List.all_eq_false]
  exact ⟨_, List.mem_of_getElem? (bytesOf_get s k h), by rw [h2]; decide⟩
theorem all_done {p : Int → Bool} (s : ByteArray) (k : Nat) (h : ¬ k < s.size) (h1 : ((bytesOf s).take k).all p = true) : (bytesOf s).all p = true := by
  rwa [List.take_of_length_le (by rw [bytesOf_len]; omega)] at h1
theorem toList_nil {s : ByteArray} (h : s.size = 0) : s.toList = [] := by
  have : s = ByteArray.empty := by
    cases s with
    | mk d =>
      have : d = #[] := Array.size_eq_zero_iff.1 h
      rw [this]
      rfl
  exact (Go.toList_nil_iff_emptyBytes s).2 this
theorem toList_ne {s : ByteArray} (h : ¬ s.size = 0) : ¬ s.toList = [] ∧ s.toList.isEmpty = false := by
  have h1 : ¬ s.toList = [] := fun e => h (by
    rw [(Go.toList_nil_iff_emptyBytes s).1 e]
    rfl)
  exact ⟨h1, by simp [h1]⟩
theorem bt0 {s : ByteArray} (h : 0 < s.size) : bt s 0 = ((s[0]'h).toNat : Int) := by
  unfold bt
  rw [dif_pos (show (0 : Int).toNat < s.size from h)]
  rfl
theorem ret_str {a b : ByteArray} (h : a = b) : Ending.returned (.string a) = .returned (.string b) := by rw [h]
theorem ret_bool {a b : Bool} (h : a = b) : Ending.returned (.bool a) = .returned (.bool b) := by rw [h]
/-! ### what is written for a byte of a word -/
def plainB (c : Int) : Bool := decide (32 < c) && decide (c < 127) && c != 37
def digU (n : Int) : Int := if n < 10 then 48 + n else 55 + n
def encB (c : Int) : List Int := if plainB c then [c] else [37, digU (c / 16), digU (c % 16)]
def wordL (l : List Int) : List Int := if l = [] then [37] else l.flatMap encB
theorem isEmpty_bne (l : List UInt8) : Value.bool (!l.isEmpty) = Value.bool (l != []) := by cases l <;> rfl
theorem less_flip : ∀ a b : List UInt8, (!(Op.bytesLess a b || a == b)) = Op.bytesLess b a
  | [], [] => rfl
  | [], _ :: _ => rfl
  | _ :: _, [] => rfl
  | a :: x, b :: y => by
    have ih := less_flip x y
    rcases UInt8.lt_or_lt_of_ne (a := a) (b := b) |> fun f => (Decidable.em (a = b)).imp id f with h | h | h
    · subst h
      have h1 : ¬ a < a := UInt8.lt_irrefl a
      simp only [Op.bytesLess, h1, decide_false, Bool.false_or, BEq.rfl, Bool.true_and, List.cons_beq_cons]
      exact ih
    · have h1 : ¬ b < a := fun k => UInt8.lt_irrefl a (UInt8.lt_trans h k)
      have h2 : (b == a) = false := beq_false_of_ne (fun e => UInt8.lt_irrefl a (e ▸ h))
      simp [Op.bytesLess, h, h1, h2]
    · have h1 : ¬ a < b := fun k => UInt8.lt_irrefl a (UInt8.lt_trans k h)
      have h2 : (a == b) = false := beq_false_of_ne (fun e => UInt8.lt_irrefl a (e ▸ h))
      simp [Op.bytesLess, h, h1, h2]
theorem gtr_less (t : TypeId) (a b : ByteArray) : binOp .gtr t (.string a) (.string b) = pure (.bool (Op.bytesLess b.toList a.toList)) := by
  rw [← less_flip]
  simp [binOp, Op.stringOp]
/-! ### what is read of a word -/
def hexV (c : Int) : Int × Bool := if 48 ≤ c ∧ c ≤ 57 then (c - 48, true) else if 65 ≤ c ∧ c ≤ 70 then (c - 55, true) else (0, false)
def readGo : List Int → Option (List Int)
  | [] => some []
  | c :: r =>
    if c = 37 then
      match r with
      | a :: b :: r' => if (hexV a).2 = true ∧ (hexV b).2 = true ∧ plainB ((hexV a).1 * 16 + (hexV b).1) = false then (readGo r').map (((hexV a).1 * 16 + (hexV b).1) :: ·) else none
      | _ => none
    else if plainB c then (readGo r).map (c :: ·) else none
def readL (l : List Int) : List Int × Bool := if l = [37] then ([], true) else match readGo l with
  | none => ([], false)
  | some r => (r, decide (l ≠ []))
/-! ### one block written, the rest as it was -/
structure Put (g : Nat) (w w1 : World) : Prop where
  os : w1.os = w.os
  tape : w1.tape = w.tape
  output : w1.output = w.output
  size : w1.heap.size = w.heap.size
  block : ∀ k, k ≠ g → w1.heap[k]? = w.heap[k]?
theorem put_setRow (w : World) (g : Nat) (cs : Array Value) : Put g w (w.setRow g cs) := ⟨rfl, rfl, rfl, by simp, fun k hk => setRow_other w g k cs hk⟩
theorem Put.trans {g : Nat} {a b c : World} (h : Put g a b) (k : Put g b c) : Put g a c := ⟨k.os.trans h.os, k.tape.trans h.tape, k.output.trans h.output, k.size.trans h.size, fun i hi => (k.block i hi).trans (h.block i hi)⟩
theorem Put.below {g B : Nat} {a w w1 : World} (h : Put g w w1) (hb : Below B a w) (hg : B ≤ g) : Below B a w1 :=
  hb.trans ⟨h.os, h.tape, h.output, by rw [h.size]; exact Nat.le_refl _, fun k hk => h.block k (by omega)⟩
theorem Put.R {α : Type} {d : Kd α} {e base g t : Nat} {ok : Nat → Prop} {v : Value} {xs : List α} {w w1 : World} {cells : Array Value} (h : Put g w w1) (hR : Kd.R d e w base ok v xs) (hb : w.heap[g]? = some (.cells cells t (0, 0))) (ht : ∀ q, q ∈ e :: d.E → q ≠ t) : Kd.R d e w1 base ok v xs :=
  Kd.R_mono (Kd.R_step (Kd.R_types hR hb ht) (fun k hk _ => h.block k hk.2)) (fun _ hk => hk.1)
theorem Put.blk {g k : Nat} {o : Obj} {w w1 : World} (h : Put g w w1) (hb : w.heap[k]? = some o) (hk : k ≠ g) : w1.heap[k]? = some o := (h.block k hk).trans hb
theorem R_str {e base g n c : Nat} {ok : Nat → Prop} {w : World} {xs : List ByteArray} (h : Kd.R Kd.string e w base ok (.slice (some ⟨g, 0, none⟩) n c) xs) (i : Nat) (hi : i < xs.length) : w.cell? ⟨g, i, none⟩ = some (.string (xs.getD i ByteArray.empty)) := by
  obtain ⟨h1, h2, h3⟩ := Kd.R_reads' h
  obtain ⟨ad, cs, he, hl, hk, hc⟩ := Kd.C_get h3 ByteArray.empty (i : Int) (by omega) (by omega)
  injection he with he
  subst he
  rw [Int.toNat_natCast] at hk hc
  have hk' : cs = [.string (xs.getD i ByteArray.empty)] := hk
  have := hc 0 (.string (xs.getD i ByteArray.empty)) (by rw [hk']; rfl)
  have e2 : (⟨g, 0, none⟩ : Addr).add (i * 1 + 0) = ⟨g, i, none⟩ := by
    unfold Addr.add
    by_cases h : i = 0 <;> simp [h]
  rw [← e2]
  exact this
section
variable {P : Program} {ops : Array Oper} {rest : List Oper} {o : Oper} {a : Act} {w : World} {Q : Exit → Act → World → Prop}
/-- A struct stored whole into a block of its own: the world behind is a letter. -/
theorem store_ev (hgd : o.guard = none) (ty : TypeId) (x y : Operand) (ho : o.op = .store ty x y) (hd : o.dst = none) (g : Nat) (cells : Array Value) (hx : a.eval x = .pointer (some ⟨g, 0, none⟩)) (hy : a.eval y = .agg cells)
    (t : TypeId) (old : Array Value) (hg : w.heap[g]? = some (.cells old t (0, 0))) (hi : (P.info? ty).map (·.size) = some cells.size) (hold : old.size = cells.size) (h1 : cells.all (·.oneCell') = true)
    (h : ∀ w1, w1.heap[g]? = some (.cells cells t (0, 0)) → Put g w w1 → wpList P ops Q rest a w1) : wpList P ops Q (o :: rest) a w :=
  wpList_store_rowTo hgd ty x y ho hd g cells hx hy t old hg hi hold h1 (h _ (setRow_heap w g old cells t (0, 0) hg) (put_setRow w g cells))
end
/-! ### the digits of a number in sixteen places -/
def digX (n : Int) : Int := if n < 10 then 48 + n else 87 + n
def hexD (n : Int) (j : Nat) : Int := digX (n / 16 ^ (15 - j) % 16)
def hexL (n : Int) : List Int := (List.range 16).map (hexD n)
/-! ### '==' of arrays as one Bool -/
section
variable {P : Program} {d : Nat} {xs ys : Array Value} {e : TypeId} {c : Nat} {a b : Value} {r s : Bool} {w : World} {j : Nat} {is : List Nat}
end
end Go.Proofs.YtbbegchdlkmebaaDoor.Conv
