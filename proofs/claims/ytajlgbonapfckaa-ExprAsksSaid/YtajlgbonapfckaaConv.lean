/- Words for walks by hand: '[]byte(s)' and a loop over it. -/
import Derived.Test.YtajlgbonapfckaaWWords
import Derived.Test.YtajlgbonapfckaaWMore
import Derived.Lib.ConvBytes
import Derived.Lib.Hide
import Derived.WalkKit
import Derived.Laws.Closers25b
import Derived.Great.BuildSlice
import Derived.Deep.WholeRow
import Derived.ChangeKeysEq
namespace Go.Proofs.Ytajlgbonapfckaa.Conv
open Go.RowKit Go.Proofs.YtajlgbonapfckaaW.PrintWords
set_option linter.unusedVariables false
set_option linter.unusedSimpArgs false

theorem below_bytes (w : World) (e : TypeId) (s : ByteArray) : Below w.heap.size w (Lib.bytesWorld w e s) :=
  (Below.refl w.heap.size w).grown (row := none) ⟨rfl, rfl, rfl, by rw [Lib.bytesWorld_size]; omega, fun k hk _ => Lib.bytesWorld_at_old w e s k hk⟩ (Nat.le_refl _) (by simp)
theorem bytesOf_len (s : ByteArray) : (bytesOf s).length = s.size := by
  show (s.data.toList.map _).length = s.data.size
  rw [List.length_map, Array.length_toList]
theorem bytesOf_get (s : ByteArray) (k : Nat) (h : k < s.size) : (bytesOf s)[k]? = some (((s.data.toList.getD k 0).toNat : Int)) := by
  have h2 : k < s.data.toList.length := by
    rw [Array.length_toList]
    exact h
  show (s.data.toList.map _)[k]? = _
  rw [List.getElem?_map, List.getElem?_eq_getElem h2, List.getD, List.getElem?_eq_getElem h2]
  rfl
theorem byte_range (s : ByteArray) (k : Nat) : (0 : Int) ≤ ((s.data.toList.getD k 0).toNat : Int) ∧ ((s.data.toList.getD k 0).toNat : Int) ≤ 255 := by
  have := (s.data.toList.getD k 0).toNat_lt
  omega
theorem take_succ_all {p : Int → Bool} (s : ByteArray) (k : Nat) (h : k < s.size) (h1 : ((bytesOf s).take k).all p = true) (h2 : p ((s.data.toList.getD k 0).toNat : Int) = true) : ((bytesOf s).take (k + 1)).all p = true := by
  rw [List.take_add_one, bytesOf_get s k h, List.all_append, h1]
  simp only [Option.toList_some, List.all_cons, List.all_nil, Bool.and_true, Bool.true_and]
  exact h2
theorem all_false {p : Int → Bool} (s : ByteArray) (k : Nat) (h : k < s.size) (h2 : p ((s.data.toList.getD k 0).toNat : Int) = false) : (bytesOf s).all p = false := by
  rw [List.all_eq_false]
  exact ⟨_, List.mem_of_getElem? (bytesOf_get s k h), by rw [h2]; decide⟩
theorem all_done {p : Int → Bool} (s : ByteArray) (k : Nat) (h : ¬ k < s.size) (h1 : ((bytesOf s).take k).all p = true) : (bytesOf s).all p = true := by
  rwa [List.take_of_length_le (by rw [bytesOf_len]; omega)] at h1
theorem toList_nil {s : ByteArray} (h : s.size = 0) : s.toList = [] := by
  have : s = ByteArray.empty := by
    cases s with
    | mk d =>
      have : d = #[] := Array.size_eq_zero_iff.1 h
      rw [this]
      rfl
  exact (Go.toList_nil_iff_emptyBytes s).2 this
theorem toList_ne {s : ByteArray} (h : ¬ s.size = 0) : ¬ s.toList = [] ∧ s.toList.isEmpty = false := by
  have h1 : ¬ s.toList = [] := fun e => h (by
    rw [(Go.toList_nil_iff_emptyBytes s).1 e]
    rfl)
  exact ⟨h1, by simp [h1]⟩
theorem bt0 {s : ByteArray} (h : 0 < s.size) : bt s 0 = ((s[0]'h).toNat : Int) := by
  unfold bt
  rw [dif_pos (show (0 : Int).toNat < s.size from h)]
  rfl
theorem ret_u8 {a b : Int} (h : a = b) : Ending.returned (.int .u8 a) = .returned (.int .u8 b) := by rw [h]
theorem ret_str {a b : ByteArray} (h : a = b) : Ending.returned (.string a) = .returned (.string b) := by rw [h]
theorem ret_bool {a b : Bool} (h : a = b) : Ending.returned (.bool a) = .returned (.bool b) := by rw [h]
/-! ### what is written for a byte of a word -/
def plainB (c : Int) : Bool := decide (32 < c) && decide (c < 127) && c != 37
def digU (n : Int) : Int := if n < 10 then 48 + n else 55 + n
def encB (c : Int) : List Int := if plainB c then [c] else [37, digU (c / 16), digU (c % 16)]
def wordL (l : List Int) : List Int := if l = [] then [37] else l.flatMap encB
theorem encB_yes {c : Int} (h : plainB c = true) : encB c = [c] := by
  unfold encB
  rw [if_pos h]
theorem encB_no {c : Int} (h : plainB c = false) : encB c = [37, digU (c / 16), digU (c % 16)] := by
  unfold encB
  rw [if_neg (by rw [h]; decide)]
theorem digU_in {n : Int} (h : 0 ≤ n) (h2 : n < 16) : 48 ≤ digU n ∧ digU n ≤ 70 := by
  unfold digU
  split <;> omega
theorem encB_in {c : Int} (h : 0 ≤ c ∧ c ≤ 255) : ∀ x ∈ encB c, 0 ≤ x ∧ x ≤ 255 := by
  intro x hx
  have h1 := digU_in (n := c / 16) (by omega) (by omega)
  have h2 := digU_in (n := c % 16) (by omega) (by omega)
  cases hp : plainB c
  · rw [encB_no hp] at hx
    simp at hx
    omega
  · rw [encB_yes hp] at hx
    rw [List.mem_singleton.1 hx]
    exact h
theorem encB_len (c : Int) : (encB c).length ≤ 3 := by
  cases hp : plainB c
  · rw [encB_no hp]
    simp
  · rw [encB_yes hp]
    simp
theorem flatMap_len : ∀ l : List Int, (l.flatMap encB).length ≤ 3 * l.length
  | [] => by simp
  | c :: l => by
    have h1 := encB_len c
    have h2 := flatMap_len l
    simp only [List.flatMap_cons, List.length_append, List.length_cons]
    omega
theorem take_flat (s : ByteArray) (k : Nat) (h : k < s.size) : ((bytesOf s).take (k + 1)).flatMap encB = ((bytesOf s).take k).flatMap encB ++ encB (bt s k) := by
  rw [List.take_add_one, bytesOf_get s k h, List.flatMap_append]
  have e2 : bt s (k : Int) = ((s.data.toList.getD k 0).toNat : Int) := by
    rw [← rd_bytesOf]
    unfold rd
    rw [Int.toNat_natCast, List.getD_eq_getElem?_getD (l := bytesOf s), bytesOf_get s k h]
    rfl
  rw [e2]
  simp
theorem flat_in (s : ByteArray) (k : Nat) : ∀ x ∈ ((bytesOf s).take k).flatMap encB, 0 ≤ x ∧ x ≤ 255 := by
  intro x hx
  obtain ⟨c, hc, hx⟩ := List.mem_flatMap.1 hx
  refine encB_in ?_ x hx
  obtain ⟨b, _, rfl⟩ := List.mem_map.1 (List.mem_of_mem_take hc)
  have := b.toNat_lt
  omega
theorem isEmpty_bne (l : List UInt8) : Value.bool (!l.isEmpty) = Value.bool (l != []) := by cases l <;> rfl
theorem less_flip : ∀ a b : List UInt8, (!(Op.bytesLess a b || a == b)) = Op.bytesLess b a
  | [], [] => rfl
  | [], _ :: _ => rfl
  | _ :: _, [] => rfl
  | a :: x, b :: y => by
    have ih := less_flip x y
    rcases UInt8.lt_or_lt_of_ne (a := a) (b := b) |> fun f => (Decidable.em (a = b)).imp id f with h | h | h
    · subst h
      have h1 : ¬ a < a := UInt8.lt_irrefl a
      simp only [Op.bytesLess, h1, decide_false, Bool.false_or, BEq.rfl, Bool.true_and, List.cons_beq_cons]
      exact ih
    · have h1 : ¬ b < a := fun k => UInt8.lt_irrefl a (UInt8.lt_trans h k)
      have h2 : (b == a) = false := beq_false_of_ne (fun e => UInt8.lt_irrefl a (e ▸ h))
      simp [Op.bytesLess, h, h1, h2]
    · have h1 : ¬ a < b := fun k => UInt8.lt_irrefl a (UInt8.lt_trans k h)
      have h2 : (a == b) = false := beq_false_of_ne (fun e => UInt8.lt_irrefl a (e ▸ h))
      simp [Op.bytesLess, h, h1, h2]
theorem gtr_less (t : TypeId) (a b : ByteArray) : binOp .gtr t (.string a) (.string b) = pure (.bool (Op.bytesLess b.toList a.toList)) := by
  rw [← less_flip]
  simp [binOp, Op.stringOp]
/-! ### what is read of a word -/
def hexV (c : Int) : Int × Bool := if 48 ≤ c ∧ c ≤ 57 then (c - 48, true) else if 65 ≤ c ∧ c ≤ 70 then (c - 55, true) else (0, false)
theorem hexV_in (c : Int) : 0 ≤ (hexV c).1 ∧ (hexV c).1 < 16 := by
  unfold hexV
  split
  · simp; omega
  · split
    · simp; omega
    · simp
def readGo : List Int → Option (List Int)
  | [] => some []
  | c :: r =>
    if c = 37 then
      match r with
      | a :: b :: r' => if (hexV a).2 = true ∧ (hexV b).2 = true ∧ plainB ((hexV a).1 * 16 + (hexV b).1) = false then (readGo r').map (((hexV a).1 * 16 + (hexV b).1) :: ·) else none
      | _ => none
    else if plainB c then (readGo r).map (c :: ·) else none
def readL (l : List Int) : List Int × Bool := if l = [37] then ([], true) else match readGo l with
  | none => ([], false)
  | some r => (r, decide (l ≠ []))
theorem or16 : ∀ x y : Fin 16, Go.bits .or .u8 ((x.val : Int) * 16) (y.val : Int) = (x.val : Int) * 16 + (y.val : Int) := by decide +kernel
theorem or_nibbles {x y : Int} (hx : 0 ≤ x) (hx2 : x < 16) (hy : 0 ≤ y) (hy2 : y < 16) : Go.bits .or .u8 (x * 16) y = x * 16 + y := by
  have := or16 ⟨x.toNat, by omega⟩ ⟨y.toNat, by omega⟩
  simpa [Int.toNat_of_nonneg hx, Int.toNat_of_nonneg hy] using this
theorem readGo_plain {c : Int} {r : List Int} (h : c ≠ 37) (hp : plainB c = true) : readGo (c :: r) = (readGo r).map (c :: ·) := by
  rw [readGo.eq_def]
  simp only [if_neg h, if_pos hp]
theorem readGo_bad {c : Int} {r : List Int} (h : c ≠ 37) (hp : plainB c = false) : readGo (c :: r) = none := by
  rw [readGo.eq_def]
  simp only [if_neg h, hp, Bool.false_eq_true, if_false]
theorem readGo_short {r : List Int} (h : r.length < 2) : readGo (37 :: r) = none := by
  match r, h with
  | [], _ => rfl
  | [_], _ => rfl
theorem readGo_no {a b : Int} {r : List Int} (h : ¬ ((hexV a).2 = true ∧ (hexV b).2 = true ∧ plainB ((hexV a).1 * 16 + (hexV b).1) = false)) : readGo (37 :: a :: b :: r) = none := by
  rw [readGo, if_pos rfl]
  exact if_neg h
theorem readGo_yes {a b : Int} {r : List Int} (h : (hexV a).2 = true) (h2 : (hexV b).2 = true) (h3 : plainB ((hexV a).1 * 16 + (hexV b).1) = false) : readGo (37 :: a :: b :: r) = (readGo r).map (((hexV a).1 * 16 + (hexV b).1) :: ·) := by
  rw [readGo, if_pos rfl]
  exact if_pos ⟨h, h2, h3⟩
theorem bt_drop' (s : ByteArray) (i : Nat) (h : i < s.size) : (bytesOf s).drop i = bt s (i : Int) :: (bytesOf s).drop (i + 1) := by
  have h1 : i < (bytesOf s).length := by rw [bytesOf_length]; exact h
  rw [List.drop_eq_getElem_cons h1, ← rd_bytesOf]
  unfold rd
  rw [Int.toNat_natCast, List.getD_eq_getElem?_getD, List.getElem?_eq_getElem h1]
  rfl
theorem map_snoc {o : Option (List Int)} {acc : List Int} {x : Int} : (o.map (x :: ·)).map (acc ++ ·) = o.map ((acc ++ [x]) ++ ·) := by
  cases o <;> simp
theorem bytesCells_get (w : World) (e : TypeId) (s : ByteArray) (k : Nat) (h : k < s.size) : (Lib.bytesCells w e s)[k]? = some (.int .u8 (bt s k)) := by
  have h1 := Lib.bytesWorld_cell w e s k h
  have h2 := Lib.bytesWorld_at_new w e s
  unfold World.cell? at h1
  rw [h2] at h1
  have e2 : bt s (k : Int) = ((s.data.toList.getD k 0).toNat : Int) := by
    rw [← rd_bytesOf]
    unfold rd
    rw [Int.toNat_natCast, List.getD_eq_getElem?_getD (l := bytesOf s), bytesOf_get s k h]
    rfl
  rw [e2]
  simpa using h1
/-! ### one block written, the rest as it was -/
structure Put (g : Nat) (w w1 : World) : Prop where
  os : w1.os = w.os
  tape : w1.tape = w.tape
  output : w1.output = w.output
  size : w1.heap.size = w.heap.size
  block : ∀ k, k ≠ g → w1.heap[k]? = w.heap[k]?
theorem put_setRow (w : World) (g : Nat) (cs : Array Value) : Put g w (w.setRow g cs) := ⟨rfl, rfl, rfl, by simp, fun k hk => setRow_other w g k cs hk⟩
theorem put_setCell (w : World) (p : Addr) (u : Value) : Put p.block w (w.setCell p u) := ⟨rfl, rfl, rfl, by simp [World.setCell], fun k hk => Below.heap_setCell w p u k hk⟩
theorem Put.trans {g : Nat} {a b c : World} (h : Put g a b) (k : Put g b c) : Put g a c := ⟨k.os.trans h.os, k.tape.trans h.tape, k.output.trans h.output, k.size.trans h.size, fun i hi => (k.block i hi).trans (h.block i hi)⟩
theorem Put.below {g B : Nat} {a w w1 : World} (h : Put g w w1) (hb : Below B a w) (hg : B ≤ g) : Below B a w1 :=
  hb.trans ⟨h.os, h.tape, h.output, by rw [h.size]; exact Nat.le_refl _, fun k hk => h.block k (by omega)⟩
theorem Put.R {α : Type} {d : Kd α} {e base g t : Nat} {ok : Nat → Prop} {v : Value} {xs : List α} {w w1 : World} {cells : Array Value} (h : Put g w w1) (hR : Kd.R d e w base ok v xs) (hb : w.heap[g]? = some (.cells cells t (0, 0))) (ht : ∀ q, q ∈ e :: d.E → q ≠ t) : Kd.R d e w1 base ok v xs :=
  Kd.R_mono (Kd.R_step (Kd.R_types hR hb ht) (fun k hk _ => h.block k hk.2)) (fun _ hk => hk.1)
theorem Put.blk {g k : Nat} {o : Obj} {w w1 : World} (h : Put g w w1) (hb : w.heap[k]? = some o) (hk : k ≠ g) : w1.heap[k]? = some o := (h.block k hk).trans hb
theorem C_lit {α : Type} {enc : α → Value} {h1 : ∀ x : α, (enc x).oneCell' = true} {w : World} {g : Nat} {e : TypeId} {fr : Nat × Nat} {xs : List α} (hb : w.heap[g]? = some (.cells (encs enc xs).toArray e fr)) (hl : xs.length ≤ 9223372036854775807) : (Kd.scalar enc h1).C w (some ⟨g, 0, none⟩) xs.length xs := by
  refine ⟨rfl, hl, fun _ => ⟨⟨g, 0, none⟩, rfl, fun j p hj => ⟨[enc p], rfl, rfl, fun i u hu => ?_⟩⟩⟩
  have hi : i = 0 := by
    have := (List.getElem?_eq_some_iff.1 hu).1
    simp at this
    exact this
  subst hi
  have e1 : (⟨g, 0, none⟩ : Addr).add (j * 1 + 0) = ⟨g, j, none⟩ := by
    unfold Addr.add
    by_cases h : j = 0 <;> simp [h]
  show w.cell? ((⟨g, 0, none⟩ : Addr).add (j * 1 + 0)) = _
  rw [e1, cell_of_row w g j _ e fr hb, List.getElem?_toArray]
  unfold encs
  rw [List.getElem?_map, hj]
  exact hu
theorem R_str {e base g n c : Nat} {ok : Nat → Prop} {w : World} {xs : List ByteArray} (h : Kd.R Kd.string e w base ok (.slice (some ⟨g, 0, none⟩) n c) xs) (i : Nat) (hi : i < xs.length) : w.cell? ⟨g, i, none⟩ = some (.string (xs.getD i ByteArray.empty)) := by
  obtain ⟨h1, h2, h3⟩ := Kd.R_reads' h
  obtain ⟨ad, cs, he, hl, hk, hc⟩ := Kd.C_get h3 ByteArray.empty (i : Int) (by omega) (by omega)
  injection he with he
  subst he
  rw [Int.toNat_natCast] at hk hc
  have hk' : cs = [.string (xs.getD i ByteArray.empty)] := hk
  have := hc 0 (.string (xs.getD i ByteArray.empty)) (by rw [hk']; rfl)
  have e2 : (⟨g, 0, none⟩ : Addr).add (i * 1 + 0) = ⟨g, i, none⟩ := by
    unfold Addr.add
    by_cases h : i = 0 <;> simp [h]
  rw [← e2]
  exact this
section
variable {P : Program} {ops : Array Oper} {rest : List Oper} {o : Oper} {a : Act} {w : World} {Q : Exit → Act → World → Prop}
/-- A struct stored whole into a block of its own: the world behind is a letter. -/
theorem store_ev (hgd : o.guard = none) (ty : TypeId) (x y : Operand) (ho : o.op = .store ty x y) (hd : o.dst = none) (g : Nat) (cells : Array Value) (hx : a.eval x = .pointer (some ⟨g, 0, none⟩)) (hy : a.eval y = .agg cells)
    (t : TypeId) (old : Array Value) (hg : w.heap[g]? = some (.cells old t (0, 0))) (hi : (P.info? ty).map (·.size) = some cells.size) (hold : old.size = cells.size) (h1 : cells.all (·.oneCell') = true)
    (h : ∀ w1, w1.heap[g]? = some (.cells cells t (0, 0)) → Put g w w1 → wpList P ops Q rest a w1) : wpList P ops Q (o :: rest) a w :=
  wpList_store_rowTo hgd ty x y ho hd g cells hx hy t old hg hi hold h1 (h _ (setRow_heap w g old cells t (0, 0) hg) (put_setRow w g cells))
end
/-! ### the digits of a number in sixteen places -/
def digX (n : Int) : Int := if n < 10 then 48 + n else 87 + n
def hexD (n : Int) (j : Nat) : Int := digX (n / 16 ^ (15 - j) % 16)
def hexL (n : Int) : List Int := (List.range 16).map (hexD n)
/-! ### '==' of arrays as one Bool -/
section
variable {P : Program} {d : Nat} {xs ys : Array Value} {e : TypeId} {c : Nat} {a b : Value} {r s : Bool} {w : World} {j : Nat} {is : List Nat}
theorem eqi_cons (ha : (part e xs (j * c)).run P w = .ok a w) (hb : (part e ys (j * c)).run P w = .ok b w) (he : (Op.equalIn d e a b).run P w = .ok r w) (hr : (Op.eqItems d e c xs ys is).run P w = .ok s w) : (Op.eqItems d e c xs ys (j :: is)).run P w = .ok (r && s) w := by
  rw [Op.eqItems]
  simp only [Sem.run_bind, ha, hb, he, Result.andThen_ok]
  cases r
  · simp
  · simpa using hr
theorem eqi_last (ha : (part e xs (j * c)).run P w = .ok a w) (hb : (part e ys (j * c)).run P w = .ok b w) (he : (Op.equalIn d e a b).run P w = .ok r w) : (Op.eqItems d e c xs ys [j]).run P w = .ok r w := by
  simp only [Op.eqItems, Sem.run_bind, ha, hb, he, Result.andThen_ok]
  cases r <;> simp
theorem eqArr_of {t : TypeId} {n : Nat} (hu : P.underlying t = some (.array n e)) (hi : (P.info? e).isSome = true) (hc : P.cellsOf e = c) (h : (Op.eqItems d e c xs ys (List.range n)).run P w = .ok r w) : (Op.equalIn (d + 1) t (.agg xs) (.agg ys)).run P w = .ok r w := by
  obtain ⟨i, hi⟩ := Option.isSome_iff_exists.1 hi
  subst hc
  rw [run_equalIn_array (P := P) w d xs ys hu hi]
  exact h
end
end Go.Proofs.Ytajlgbonapfckaa.Conv
