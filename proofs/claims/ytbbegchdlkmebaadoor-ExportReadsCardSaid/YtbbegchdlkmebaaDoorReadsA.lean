/- What an export's text says, read by the program and by the reference: in plain Lean. -/
import Derived.Test.YtbbegchdlkmebaaDoorPExportReadsx5
import Derived.Test.YtbbegchdlkmebaaDoorPExportReadsx12
import Derived.Test.YtbbegchdlkmebaaDoorReadsBase
import Derived.Test.YtbbegchdlkmebaaDoorHex
import Derived.Test.YtbbegchdlkmebaaDoorCut
import Derived.Test.YtbbegchdlkmebaaDoorDec
import Derived.Test.YtbbegchdlkmebaaDoorStr
import Derived.Test.YtbbegchdlkmebaaDoorEvs
namespace Go.Proofs.YtbbegchdlkmebaaDoor.Pure
open Go.RowKit Go.Proofs.YtbbegchdlkmebaaDoor.PExportReads Go.Proofs.YtbbegchdlkmebaaDoorW.PrintWords Go.Proofs.YtbbegchdlkmebaaDoorW.PrintLast Go.Proofs.YtbbegchdlkmebaaDoorW.PrintMore Go.Proofs.YtbbegchdlkmebaaDoor.Evs Go.Proofs.YtbbegchdlkmebaaDoor.Str Go.Proofs.YtbbegchdlkmebaaDoor.Conv Go.Proofs.YtbbegchdlkmebaaDoor.Hex Go.Proofs.YtbbegchdlkmebaaDoor.Cut Go.Proofs.YtbbegchdlkmebaaDoor.Dec
set_option linter.unusedVariables false
set_option linter.unusedSimpArgs false
namespace RA
open Cu EW
/-! ### a text's bytes -/
theorem two_bytes {s : ByteArray} {l r : List Int} {c : Int} (h : bytesOf s = l ++ c :: r) : Bytes l ∧ Bytes r ∧ (0 ≤ c ∧ c ≤ 255) := by
 have hb := bytesOf_bytes s
 rw [h] at hb
 exact ⟨fun x hx => hb x (by simp [hx]), fun x hx => hb x (by simp [hx]), hb c (by simp)⟩
theorem two_size {s : ByteArray} {l r : List Int} {c : Int} (h : bytesOf s = l ++ c :: r) : s.size = l.length + 1 + r.length := by
 rw [← bytesOf_length, h, List.length_append, List.length_cons]
 omega
theorem nil_str (l : List Int) (hl : l ≠ []) : ¬ ((strOfNums l).toList == ([] : List UInt8)) = true := by
 intro h
 have h2 := toList_eq_nil.1 (eq_of_beq h)
 rw [size_str] at h2
 exact hl (List.eq_nil_of_length_eq_zero h2)
theorem sep10 : (⟨#[10]⟩ : ByteArray) = sepZ 10 := rfl
theorem sep61 : (⟨#[61]⟩ : ByteArray) = sepZ 61 := rfl
theorem line_no (s : ByteArray) (h : (10 : Int) ∉ bytesOf s) : export_line.f s = some (s, (⟨#[]⟩ : ByteArray), false) := by
 unfold export_line.f
 rw [sep10, cut_no 10 s (List.count_eq_zero.2 h)]
 rfl
theorem cut_at (z : UInt8) (s : ByteArray) (hs : s.size ≤ 10000000) (a b : List Int) (h : bytesOf s = a ++ (z.toNat : Int) :: b) (ha : (z.toNat : Int) ∉ a) : strings_Cut.f s (sepZ z) = some (strOfNums a, strOfNums b, true) := by
 obtain ⟨a', b', h1, h2, h3⟩ := cut_yes z s hs (by
  rw [h]
  exact Nat.pos_iff_ne_zero.1 (List.count_pos_iff.2 (by simp)))
 obtain ⟨e1, e2⟩ := app_inj h3 ha (h2.symm.trans h)
 rw [h1, e1, e2]
theorem line_at (s : ByteArray) (hs : s.size ≤ 10000000) (l r : List Int) (h : bytesOf s = l ++ 10 :: r) (hl : (10 : Int) ∉ l) : export_line.f s = some (strOfNums l, strOfNums r, true) := by
 unfold export_line.f
 rw [sep10, cut_at 10 s hs l r h hl]
 rfl
theorem mem_split {c : Int} : ∀ (l : List Int), c ∈ l → ∃ a b, l = a ++ c :: b ∧ c ∉ a
 | [], h => absurd h (by simp)
 | x :: l, h => by
  by_cases hx : x = c
  ·exact ⟨[], l, by rw [hx]; rfl, by simp⟩
  ·obtain ⟨a, b, h1, h2⟩ := mem_split l (by
    rcases List.mem_cons.1 h with h | h
    ·exact absurd h.symm hx
    ·exact h)
   exact ⟨x :: a, b, by rw [h1]; rfl, by
    intro h
    rcases List.mem_cons.1 h with h | h
    ·exact hx h.symm
    ·exact h2 h⟩
/-! ### eight bytes as a number -/
def leV : List Int → Int
 | [] => 0
 | b :: r => b + 256 * leV r
theorem leV_snoc : ∀ (l : List Int) (b : Int), leV (l ++ [b]) = leV l + 256 ^ l.length * b
 | [], b => by simp [leV]
 | x :: l, b => by
  rw [List.cons_append, leV, leV_snoc l b, leV, List.length_cons, Int.pow_succ, Int.mul_add, Int.add_assoc, ← Int.mul_assoc, Int.mul_comm 256 (256 ^ l.length)]
theorem leV_in : ∀ (l : List Int), Bytes l → 0 ≤ leV l ∧ leV l < 256 ^ l.length
 | [], _ => by simp [leV]
 | x :: l, h => by
  have hx := h x (by simp)
  have ih := leV_in l (fun y hy => h y (by simp [hy]))
  rw [leV, List.length_cons, Int.pow_succ]
  omega
theorem p64 : (256 : Int) ^ 8 = 18446744073709551616 := by decide
theorem p256 (i : Nat) (h : i ≤ 7) : (256 : Int) ^ i ≤ 72057594037927936 := by
 obtain rfl | rfl | rfl | rfl | rfl | rfl | rfl | rfl : i = 0 ∨ i = 1 ∨ i = 2 ∨ i = 3 ∨ i = 4 ∨ i = 5 ∨ i = 6 ∨ i = 7 := by omega
 all_goals decide
theorem leV_u64 {l : List Int} (h : Bytes l) (hl : l.length = 8) : 0 ≤ leV l ∧ leV l ≤ 18446744073709551615 := by
 have := leV_in l h
 rw [hl, p64] at this
 omega
theorem le_or (m d : Int) (h0 : 0 ≤ d) (h1 : d < 256) : bits .or .u64 (IntKind.u64.wrap (m * 256)) d = m * 256 % 18446744073709551616 + d := by
 rw [IntKind.wrap_u64]
 exact bits_join .u64 64 (by decide) wraps_u64 8 _ d (Int.emod_nonneg _ (by decide)) (by omega) (Int.emod_lt_of_pos _ (by decide)) h0 (by omega) (by omega)
theorem rd_at (L : List Int) (j : Nat) (hj : j < L.length) : L.drop j = rd L (j : Int) :: L.drop (j + 1) := by
 rw [List.drop_eq_getElem_cons hj]
 congr 1
 unfold rd
 rw [Int.toNat_natCast, List.getD_eq_getElem?_getD, List.getElem?_eq_getElem hj]
 rfl
theorem le_go (L : List Int) (hL : L.length = 8) (hB : Bytes L) : ∀ j : Nat, j ≤ 8 → Ev (fun k => le_Get.l0 k L 0 (leV (L.drop j)) ((j : Int) - 1)) (leV L, true)
 | 0, _ => Ev.step (fun k => le_Get.l0.eq_2 _ _ _ _ _) (Ev.neg (by omega) (Ev.now _))
 | j + 1, hj => by
  have ih := le_go L hL hB j (by omega)
  have hd := rd_at L j (by omega)
  have hw : wrap64 (0 + (((j + 1 : Nat) : Int) - 1)) = (j : Int) := by
   unfold wrap64
   omega
  have hx := hB (rd L (j : Int)) (List.mem_of_mem_drop (i := j) (by rw [hd]; simp))
  have hq := leV_in (L.drop (j + 1)) (fun y hy => hB y (List.mem_of_mem_drop hy))
  rw [List.length_drop, hL] at hq
  have hp := p256 (8 - (j + 1)) (by omega)
  refine Ev.step (fun k => le_Get.l0.eq_2 _ _ _ _ _) (Ev.pos (by omega) ?_)
  rw [hw]
  refine Ev.pos (by omega) (Ev.pos (by omega) ?_)
  rw [wu64 hx.1 (by omega), le_or _ _ hx.1 (by omega), show wrap64 (((j + 1 : Nat) : Int) - 1 - 1) = (j : Int) - 1 by unfold wrap64; omega]
  rw [hd, leV] at ih
  rw [show leV (L.drop (j + 1)) * 256 % 18446744073709551616 + rd L (j : Int) = rd L (j : Int) + 256 * leV (L.drop (j + 1)) by omega]
  exact ih
theorem gets_full (s : ByteArray) (hs : s.size = 8) : Ev (fun k => getS.f k s) (leV (bytesOf s), true) := by
 have hl : (bytesOf s).length = 8 := by rw [bytesOf_length]; exact hs
 have h := le_go (bytesOf s) hl (bytesOf_bytes s) 8 (Nat.le_refl _)
 rw [List.drop_of_length_le (by omega)] at h
 have hf : le_fits.f (bytesOf s) 0 8 = some true := by
  unfold le_fits.f
  rw [if_neg (by decide), if_neg (by decide), if_neg (by decide), if_pos rfl, if_pos (by decide), if_pos (by omega), hl]
  exact congrArg some (decide_eq_true (by unfold wrap64; omega))
 have e : ∀ k, getS.f k s = le_Get.l0 k (bytesOf s) 0 (leV []) (((8 : Nat) : Int) - 1) := fun k => by
  unfold getS.f le_Get.f
  rw [hf, Option.bind_some, if_pos rfl, show wrap64 ((8 : Int) - 1) = ((8 : Nat) : Int) - 1 by unfold wrap64; omega]
  rfl
 exact Ev.congr e h
theorem gets_short (s : ByteArray) (hs : s.size < 8) : Ev (fun k => getS.f k s) (0, false) := by
 have hl := bytesOf_length s
 have hf : le_fits.f (bytesOf s) 0 8 = some false := by
  unfold le_fits.f
  rw [if_neg (by decide), if_neg (by decide), if_neg (by decide), if_pos rfl, if_pos (by decide), if_pos (by omega)]
  exact congrArg some (decide_eq_false (by unfold wrap64; omega))
 have e : ∀ k, getS.f k s = some (0, false) := fun k => by
  unfold getS.f le_Get.f
  rw [hf]
  rfl
 exact Ev.congr e (Ev.now _)
theorem refget_go (B : List Int) (p : Nat) (hp : p + 8 ≤ B.length) (hb : Bytes B) (hl : B.length ≤ 10000000) : ∀ (d i : Nat), d + i = 8 → Ev (fun k => logbookref01_Get.l0 k B (p : Int) 8 (leV ((B.drop p).take i)) (256 ^ i % 18446744073709551616) (i : Int)) (leV ((B.drop p).take 8), true)
 | 0, i, hd => by
  obtain rfl : i = 8 := by omega
  exact Ev.step (fun k => logbookref01_Get.l0.eq_2 _ _ _ _ _ _ _) (Ev.neg (by decide) (Ev.now _))
 | d + 1, i, hd => by
  have ih := refget_go B p hp hb hl d (i + 1) (by omega)
  have hw : wrap64 ((p : Int) + (i : Int)) = ((p + i : Nat) : Int) := by
   unfold wrap64
   omega
  have hr := rd_at B (p + i) (by omega)
  have hx := hb (rd B ((p + i : Nat) : Int)) (List.mem_of_mem_drop (i := p + i) (by rw [hr]; simp))
  have ht : (B.drop p).take (i + 1) = (B.drop p).take i ++ [rd B ((p + i : Nat) : Int)] := by
   have hlen : i < (B.drop p).length := by rw [List.length_drop]; omega
   rw [List.take_succ_eq_append_getElem hlen]
   congr 2
   rw [List.getElem_drop]
   unfold rd
   rw [Int.toNat_natCast, List.getD_eq_getElem?_getD, List.getElem?_eq_getElem (by omega)]
   rfl
  refine Ev.step (fun k => logbookref01_Get.l0.eq_2 _ _ _ _ _ _ _) (Ev.pos (by omega) ?_)
  rw [hw]
  refine Ev.pos (by omega) (Ev.pos (by omega) ?_)
  have htl : ((B.drop p).take i).length = i := by
   rw [List.length_take, List.length_drop]
   omega
  have hq := leV_in ((B.drop p).take i) (fun y hy => hb y (List.mem_of_mem_drop (List.mem_of_mem_take hy)))
  rw [htl] at hq
  rw [ht, leV_snoc, htl] at ih
  generalize rd B ((p + i : Nat) : Int) = x at hx ih ⊢
  have hP := p256 i (by omega)
  have hP0 : (0 : Int) < 256 ^ i := Int.pow_pos (by decide)
  have hs : (256 : Int) ^ (i + 1) = 256 ^ i * 256 := Int.pow_succ _ _
  rw [hs] at ih
  generalize (256 : Int) ^ i = P at hq hP hP0 ih ⊢
  have h1 : P * x ≤ P * 255 := Int.mul_le_mul_of_nonneg_left hx.2 (by omega)
  have h0 : 0 ≤ P * x := Int.mul_nonneg (by omega) hx.1
  generalize hPx : P * x = y at h1 h0 ih
  rw [hP7 ⟨by omega, hP⟩, wu64 hx.1 (by omega), hPx, wu64 h0 (by omega), wu64 (by omega) (by omega), show wrap64 ((i : Int) + 1) = ((i + 1 : Nat) : Int) by unfold wrap64; omega]
  exact ih
where hP7 {P : Int} (h : 0 ≤ P ∧ P ≤ 72057594037927936) : P % 18446744073709551616 = P := by omega
theorem refget_full (B : List Int) (p : Nat) (hp : p + 8 ≤ B.length) (hb : Bytes B) (hl : B.length ≤ 10000000) : Ev (fun k => logbookref01_Get.f k B (p : Int) 8) (leV ((B.drop p).take 8), true) := by
 have h := refget_go B p hp hb hl 8 0 rfl
 refine Ev.neg (by decide) (Ev.neg (by decide) (Ev.neg (by decide) (Ev.pos rfl (Ev.neg (by omega) (Ev.neg (by omega) ?_)))))
 rw [show decide ((8 : Int) > wrap64 ((B.length : Int) - (p : Int))) = false from decide_eq_false (by unfold wrap64; omega)]
 exact Ev.step (fun k => logbookref01_Get.j0.eq_2 _ _ _ _ _) (Ev.neg (by decide) h)
theorem refget_short (B : List Int) (p : Nat) (hp : B.length < p + 8) (hp2 : p ≤ 10000000) (hl : B.length ≤ 10000000) : Ev (fun k => logbookref01_Get.f k B (p : Int) 8) (0, false) := by
 refine Ev.neg (by decide) (Ev.neg (by decide) (Ev.neg (by decide) (Ev.pos rfl (Ev.neg (by omega) ?_))))
 refine Ev.both (fun h => Ev.step (fun k => logbookref01_Get.j0.eq_2 _ _ _ _ _) (Ev.pos rfl (Ev.now _))) (fun h => ?_)
 rw [show decide ((8 : Int) > wrap64 ((B.length : Int) - (p : Int))) = true from decide_eq_true (by unfold wrap64; omega)]
 exact Ev.step (fun k => logbookref01_Get.j0.eq_2 _ _ _ _ _) (Ev.pos rfl (Ev.now _))
theorem leGo_leV {W : List Int} (hW : W.length = 8) (hB : Bytes W) : leGo 8 (leV W) = W := by
 match W, hW with
 | [a, b, c, d, e, f, g, h], _ =>
  have ha := hB a (by simp)
  have hb := hB b (by simp)
  have hc := hB c (by simp)
  have hd := hB d (by simp)
  have he := hB e (by simp)
  have hf := hB f (by simp)
  have hg := hB g (by simp)
  have hh := hB h (by simp)
  simp only [leGo, leV, List.nil_append, List.cons_append]
  simp only [List.cons.injEq, and_true]
  refine ⟨?_, ?_, ?_, ?_, ?_, ?_, ?_, ?_⟩ <;> omega
end RA
namespace RB
open Cu EW RA
/-! ### one line, or one item, as the program reads it -/
theorem printable_f (l : List Int) (h : Bytes l) (hl : l.length ≤ 10000000) : export_printable.f (strOfNums l) = some (l.all printB) := by
 unfold export_printable.f
 rw [if_pos (by rw [size_str]; omega), bytes_str h]
abbrev E0 : ByteArray := ⟨#[]⟩
theorem field_no (s : ByteArray) (h : (10 : Int) ∉ bytesOf s) : Ev (fun k => export_field.f k s) (E0, E0, E0, false) :=
 Ev.bindc (line_no s h) (Ev.neg (by simp) (Ev.step (fun k => export_field.j0.eq_2 _ _ _ _) (Ev.pos rfl (Ev.now _))))
theorem field_empty (s : ByteArray) (hs : s.size ≤ 10000000) (r : List Int) (h : bytesOf s = [] ++ 10 :: r) : Ev (fun k => export_field.f k s) (E0, E0, E0, false) :=
 Ev.bindc (line_at s hs [] r h (by simp)) (Ev.pos rfl (Ev.step (fun k => export_field.j0.eq_2 _ _ _ _) (Ev.pos (show ((strOfNums []).toList == ([] : List UInt8)) = true from beq_iff_eq.2 (toList_eq_nil.2 (size_str []))) (Ev.now _))))
theorem field_eq (s : ByteArray) (hs : s.size ≤ 10000000) (a v r : List Int) (h : bytesOf s = (a ++ 61 :: v) ++ 10 :: r) (h10 : (10 : Int) ∉ a ++ 61 :: v) (h61 : (61 : Int) ∉ a) : Ev (fun k => export_field.f k s) (strOfNums a, strOfNums v, strOfNums r, v.all printB) := by
 obtain ⟨hb, hr, _⟩ := two_bytes h
 have hz := two_size h
 rw [List.length_append, List.length_cons] at hz
 have hv : Bytes v := fun x hx => hb x (by simp [hx])
 have hc := cut_at 61 (strOfNums (a ++ 61 :: v)) (by rw [size_str, List.length_append, List.length_cons]; omega) a v (bytes_str hb) h61
 refine Ev.bindc (line_at s hs _ r h h10) (Ev.pos rfl (Ev.step (fun k => export_field.j0.eq_2 _ _ _ _) (Ev.neg (nil_str _ (by simp)) ?_)))
 rw [sep61]
 exact Ev.bindc hc (Ev.pos rfl (Ev.bindc (printable_f v hv (by omega)) (Ev.now _)))
theorem mn8 {n : Nat} (h : 8 ≤ n) : mn 8 (n : Int) = ((8 : Nat) : Int) := by
 unfold mn
 split <;> omega
theorem mn8s {n : Nat} (h : n < 8) : mn 8 (n : Int) = (n : Int) := by
 unfold mn
 split <;> omega
theorem take8 {r : List Int} (hr : Bytes r) (j : Nat) : bytesOf ((strOfNums r).extract 0 j) = r.take j := by
 rw [bytesOf_extract, bytes_str hr, List.drop_zero]
/-- What is read of a text in eight bytes of length and so many bytes: a field's name ahead of them. -/
def binOk (r : List Int) : Prop := 8 ≤ r.length ∧ leV (r.take 8) ≤ 1024 ∧ 8 + (leV (r.take 8)).toNat < r.length ∧ r.getD (8 + (leV (r.take 8)).toNat) 0 = 10
theorem field_bin (s : ByteArray) (hs : s.size ≤ 10000000) (l r : List Int) (h : bytesOf s = l ++ 10 :: r) (h10 : (10 : Int) ∉ l) (h61 : (61 : Int) ∉ l) (hne : l ≠ []) :
  (binOk r ∧ Ev (fun k => export_field.f k s) (strOfNums l, strOfNums ((r.drop 8).take (leV (r.take 8)).toNat), strOfNums (r.drop (9 + (leV (r.take 8)).toNat)), !(((r.drop 8).take (leV (r.take 8)).toNat).all printB))) ∨ (¬ binOk r ∧ Ev (fun k => export_field.f k s) (E0, E0, E0, false)) := by
 obtain ⟨hb, hr, _⟩ := two_bytes h
 have hz := two_size h
 have hrz : (strOfNums r).size = r.length := size_str r
 have hc : strings_Cut.f (strOfNums l) (⟨#[61]⟩ : ByteArray) = some (strOfNums l, E0, false) := by
  rw [sep61]
  exact cut_no 61 (strOfNums l) (by rw [bytes_str hb]; exact List.count_eq_zero.2 h61)
 have pre : ∀ (out : ByteArray × ByteArray × ByteArray × Bool), Ev (fun k => if 0 ≤ mn 8 ((strOfNums r).size : Int) then (if (mn 8 ((strOfNums r).size : Int)) ≤ ((strOfNums r).size : Int) then ((getS.f k ((strOfNums r).extract 0 ((mn 8 ((strOfNums r).size : Int)) : Int).toNat)).bind fun bt165 => (if bt165.2 = true then (if bt165.1 > 1024 then (some ((⟨#[]⟩ : ByteArray), (⟨#[]⟩ : ByteArray), (⟨#[]⟩ : ByteArray), false)) else (if (IntKind.u64.wrap (wrap64 (((strOfNums r).size : Int) - 8))) ≤ bt165.1 then (some ((⟨#[]⟩ : ByteArray), (⟨#[]⟩ : ByteArray), (⟨#[]⟩ : ByteArray), false)) else (if 0 ≤ (IntKind.u64.wrap (8 + bt165.1)) then (if (IntKind.u64.wrap (8 + bt165.1)) < ((strOfNums r).size : Int) then (if (bt (strOfNums r) (IntKind.u64.wrap (8 + bt165.1))) = 10 then (if 8 ≤ (IntKind.u64.wrap (8 + bt165.1)) then (if (IntKind.u64.wrap (8 + bt165.1)) ≤ ((strOfNums r).size : Int) then (if 0 ≤ (IntKind.u64.wrap (9 + bt165.1)) then (if (IntKind.u64.wrap (9 + bt165.1)) ≤ ((strOfNums r).size : Int) then ((export_printable.f ((strOfNums r).extract 8 ((IntKind.u64.wrap (8 + bt165.1)) : Int).toNat)).bind fun t167 => (some (strOfNums l, (strOfNums r).extract 8 ((IntKind.u64.wrap (8 + bt165.1)) : Int).toNat, (strOfNums r).extract ((IntKind.u64.wrap (9 + bt165.1)) : Int).toNat (strOfNums r).size, !t167))) else (none)) else (none)) else (none)) else (none)) else (some ((⟨#[]⟩ : ByteArray), (⟨#[]⟩ : ByteArray), (⟨#[]⟩ : ByteArray), false))) else (none)) else (none)))) else (some ((⟨#[]⟩ : ByteArray), (⟨#[]⟩ : ByteArray), (⟨#[]⟩ : ByteArray), false)))) else (none)) else (none)) out → Ev (fun k => export_field.f k s) out := fun out ho =>
  Ev.bindc (line_at s hs l r h h10) (Ev.pos rfl (Ev.step (fun k => export_field.j0.eq_2 _ _ _ _) (Ev.neg (nil_str _ hne) (Ev.bindc hc (Ev.neg (by simp) ho)))))
 by_cases h8 : 8 ≤ r.length
 ·rw [hrz, mn8 h8] at pre
  have hq : bytesOf ((strOfNums r).extract 0 8) = r.take 8 := take8 hr 8
  have hg := gets_full ((strOfNums r).extract 0 8) (by rw [← bytesOf_length, hq, List.length_take]; omega)
  rw [hq] at hg
  have hu := leV_u64 (l := r.take 8) (fun x hx => hr x (List.mem_of_mem_take hx)) (by rw [List.length_take]; omega)
  by_cases hn : leV (r.take 8) ≤ 1024
  ·obtain ⟨n, hnn⟩ := Int.eq_ofNat_of_zero_le hu.1
   unfold binOk
   rw [hnn] at hg hn ⊢
   rw [Int.toNat_natCast]
   have w1 : IntKind.u64.wrap (wrap64 ((r.length : Int) - 8)) = (r.length : Int) - 8 := by
    rw [w64 (by omega) (by omega), wu64 (by omega) (by omega)]
   have w2 : IntKind.u64.wrap (8 + (n : Int)) = ((8 + n : Nat) : Int) := by
    rw [wu64 (by omega) (by omega)]
    omega
   have w3 : IntKind.u64.wrap (9 + (n : Int)) = ((9 + n : Nat) : Int) := by
    rw [wu64 (by omega) (by omega)]
    omega
   by_cases h9 : 8 + n < r.length
   ·have hbt : bt (strOfNums r) ((8 + n : Nat) : Int) = r.getD (8 + n) 0 := by rw [bt_get, bytes_str hr]
    by_cases he : r.getD (8 + n) 0 = 10
    ·refine .inl ⟨⟨h8, hn, h9, he⟩, pre _ (Ev.pos (by omega) (Ev.pos (by omega) (Ev.bind hg (Ev.pos rfl (Ev.neg (by omega) ?_)))))⟩
     rw [w1, w2, w3, hbt]
     have hx : (strOfNums r).extract 8 (((8 + n : Nat) : Int)).toNat = strOfNums ((r.drop 8).take n) := by
      rw [Int.toNat_natCast]
      apply bytesOf_inj
      rw [bytesOf_extract, bytes_str hr, bytes_str (fun x hx => hr x (List.mem_of_mem_drop (List.mem_of_mem_take hx))), List.drop_take]
      congr 1
      omega
     have hy : (strOfNums r).extract (((9 + n : Nat) : Int)).toNat r.length = strOfNums (r.drop (9 + n)) := by
      rw [Int.toNat_natCast]
      apply bytesOf_inj
      rw [bytesOf_extract, bytes_str hr, bytes_str (fun x hx => hr x (List.mem_of_mem_drop hx)), List.take_of_length_le (Nat.le_refl _)]
     rw [hx, hy]
     exact Ev.neg (by omega) (Ev.pos (by omega) (Ev.pos (by omega) (Ev.pos he (Ev.pos (by omega) (Ev.pos (by omega) (Ev.pos (by omega) (Ev.pos (by omega) (Ev.bindc (printable_f _ (fun x hx => hr x (List.mem_of_mem_drop (List.mem_of_mem_take hx))) (by rw [List.length_take]; omega)) (Ev.now _)))))))))
    ·refine .inr ⟨fun g => he g.2.2.2, pre _ (Ev.pos (by omega) (Ev.pos (by omega) (Ev.bind hg (Ev.pos rfl (Ev.neg (by omega) ?_)))))⟩
     rw [w1, w2, hbt]
     exact Ev.neg (by omega) (Ev.pos (by omega) (Ev.pos (by omega) (Ev.neg he (Ev.now _))))
   ·refine .inr ⟨fun g => h9 g.2.2.1, pre _ (Ev.pos (by omega) (Ev.pos (by omega) (Ev.bind hg (Ev.pos rfl (Ev.neg (by omega) ?_)))))⟩
    rw [w1]
    exact Ev.pos (by omega) (Ev.now _)
  ·exact .inr ⟨fun g => hn g.2.1, pre _ (Ev.pos (by omega) (Ev.pos (by omega) (Ev.bind hg (Ev.pos rfl (Ev.pos (by omega) (Ev.now _))))))⟩
 ·rw [hrz, mn8s (by omega)] at pre
  have hg := gets_short ((strOfNums r).extract 0 ((r.length : Int)).toNat) (by rw [Int.toNat_natCast, ByteArray.size_extract]; omega)
  exact .inr ⟨fun g => h8 g.1, pre _ (Ev.pos (by omega) (Ev.pos (by omega) (Ev.bind hg (Ev.neg (by decide) (Ev.now _)))))⟩
/-! ### how an item is written -/
def wb (key v : List Int) : List Int := if v.all printB = true then key ++ 61 :: (v ++ [10]) else key ++ 10 :: (leGo 8 (v.length : Int) ++ (v ++ [10]))
theorem leGo_bytes (n : Int) : ∀ k, Bytes (leGo k n)
 | 0 => fun x hx => absurd hx (by simp [leGo])
 | k + 1 => fun x hx => by
  rw [leGo] at hx
  rcases List.mem_append.1 hx with h | h
  ·exact leGo_bytes n k x h
  ·rw [List.mem_singleton] at h
   subst h
   omega
theorem wb_bytes {key v : List Int} (hk : Bytes key) (hv : Bytes v) : Bytes (wb key v) := by
  unfold wb
  intro x hx
  split at hx
  all_goals
    simp only [List.mem_append, List.mem_cons, List.not_mem_nil, or_false] at hx
    first
      | (rcases hx with h | rfl | h | rfl
         · exact hk x h
         · omega
         · exact hv x h
         · omega)
      | (rcases hx with h | rfl | h | h | rfl
         · exact hk x h
         · omega
         · exact leGo_bytes _ _ x h
         · exact hv x h
         · omega)
theorem name_ok {key : List Int} (hk : Bytes key) (h : nameV (strOfNums key) = true) : (61 : Int) ∉ key ∧ (10 : Int) ∉ key ∧ key ≠ [] := by
 unfold nameV at h
 rw [size_str] at h
 split at h
 ·cases h
 ·split at h
  ·cases h
  ·split at h
   ·cases h
   ·rename_i h0 _ _
    rw [bytes_str hk, List.all_eq_true] at h
    refine ⟨fun g => ?_, fun g => ?_, fun g => ?_⟩
    ·have := (nameB_iff 61).1 (h _ g)
     omega
    ·have := (nameB_iff 10).1 (h _ g)
     omega
    ·subst g
     exact h0 rfl
theorem item_is (key v : List Int) (hk : Bytes key) (hv : Bytes v) (h61 : (61 : Int) ∉ key) (hl : key.length + v.length ≤ 10000000) :
  Ev (fun k => logbookref32_Item.f k (strOfNums (key ++ 61 :: v))) (if nameV (strOfNums key) = true then strOfNums (wb key v) else E0) := by
 have hB : Bytes (key ++ 61 :: v) := fun x hx => by
  simp only [List.mem_append, List.mem_cons] at hx
  rcases hx with h | rfl | h
  ·exact hk x h
  ·omega
  ·exact hv x h
 have hbs := bytes_str hB
 have hsz : (strOfNums (key ++ 61 :: v)).size = key.length + 1 + v.length := by
  rw [size_str, List.length_append, List.length_cons]
  omega
 have hbt : bt (strOfNums (key ++ 61 :: v)) (key.length : Nat) = 61 := by
  rw [bt_get, hbs, List.getD_eq_getElem?_getD, List.getElem?_append_right (Nat.le_refl _), Nat.sub_self]
  rfl
 have hno : ∀ j, j < key.length → bt (strOfNums (key ++ 61 :: v)) (j : Nat) ≠ 61 := fun j hj => by
  rw [bt_get, hbs, List.getD_eq_getElem?_getD, List.getElem?_append_left hj, List.getElem?_eq_getElem hj]
  exact fun e => h61 (by rw [← show key[j] = 61 from e]; exact List.getElem_mem hj)
 have hsp := ref_hit (strOfNums (key ++ 61 :: v)) (by omega) key.length (by omega) hbt hno key.length 0 (by omega)
 have hx1 : (strOfNums (key ++ 61 :: v)).extract 0 key.length = strOfNums key := by
  apply bytesOf_inj
  rw [bytesOf_extract, hbs, bytes_str hk, List.drop_zero, List.take_left]
 have hx2 : (strOfNums (key ++ 61 :: v)).extract (key.length + 1) (strOfNums (key ++ 61 :: v)).size = strOfNums v := by
  apply bytesOf_inj
  rw [bytesOf_extract, hbs, bytes_str hv, List.take_of_length_le (by rw [size_str]; exact Nat.le_refl _), ← List.drop_drop, List.drop_left]
  rfl
 unfold splitV at hsp
 rw [hx1, hx2] at hsp
 by_cases hn : nameV (strOfNums key) = true
 ·rw [if_pos hn] at hsp ⊢
  have hq := printable_go (strOfNums v) (by rw [size_str]; omega) (strOfNums v).size 0 rfl
  rw [List.drop_zero, bytes_str hv] at hq
  unfold wb
  cases hp : v.all printB with
  | true =>
   rw [hp] at hq
   rw [if_pos rfl]
   refine Ev.bind hsp (Ev.pos rfl (Ev.bind hq (Ev.pos rfl (Ev.pos (by omega) (Ev.eq (Ev.now _) ?_)))))
   rw [show (⟨#[10]⟩ : ByteArray) = strOfNums [10] from rfl, str_append]
   simp
  | false =>
   rw [hp] at hq
   rw [if_neg (by decide)]
   have hm := bytes_tells (v.length : Int) (by omega) (by omega)
   have hz := le_size (v.length : Int)
   have kz := size_str key
   have vz := size_str v
   refine Ev.bind hsp (Ev.pos rfl (Ev.bind hq (Ev.neg (by decide) (Ev.pos ?_ (Ev.pos ?_ ?_)))))
   ·rw [kz]; omega
   ·rw [vz]; omega
   ·rw [vz]
    refine Ev.bind hm (Ev.pos ?_ (Ev.pos ?_ (Ev.pos ?_ (Ev.eq (Ev.now _) ?_))))
    ·rw [kz, hz]; omega
    ·rw [kz, hz]; omega
    ·rw [kz, hz]; omega
    ·rw [show (⟨#[10]⟩ : ByteArray) = strOfNums [10] from rfl, str_append, str_append, str_append, str_append]
     simp
 ·rw [if_neg hn] at hsp ⊢
  exact Ev.bind hsp (Ev.neg (by decide) (Ev.now _))
end RB
namespace RC
open Cu EW RA RB
/-! ### one item, as the reference reads it -/
theorem wi1 {i n : Nat} (h : i ≤ n) (hn : n ≤ 10000000) : wrap64 ((i : Int) + 1) = ((i + 1 : Nat) : Int) := by
 unfold wrap64
 omega
theorem till_at (s : ByteArray) (hs : s.size ≤ 10000000) (z : Int) (m : Nat) (hm : m ≤ s.size) (hne : ∀ j, j < m → bt s ((j : Nat) : Int) ≠ z) (hend : m = s.size ∨ (m < s.size ∧ bt s ((m : Nat) : Int) = z)) : ∀ (d i : Nat), d + i = m → Ev (fun k => logbookref32_till.l0 k s (i : Int) z) (m : Int)
 | 0, i, hd => by
  obtain rfl : i = m := by omega
  rcases hend with h | ⟨h1, h2⟩
  ·exact Ev.step (fun k => logbookref32_till.l0.eq_2 _ _ _ _) (Ev.neg (by omega) (Ev.now _))
  ·exact Ev.step (fun k => logbookref32_till.l0.eq_2 _ _ _ _) (Ev.pos (by omega) (Ev.pos (by omega) (Ev.pos h2 (Ev.now _))))
 | d + 1, i, hd => by
  refine Ev.step (fun k => logbookref32_till.l0.eq_2 _ _ _ _) (Ev.pos (by omega) (Ev.pos (by omega) (Ev.neg (hne i (by omega)) ?_)))
  rw [wi1 (i := i) (n := s.size) (by omega) hs]
  exact till_at s hs z m hm hne hend d (i + 1) (by omega)
theorem till_no (s : ByteArray) (hs : s.size ≤ 10000000) (z : Int) (h : z ∉ bytesOf s) : Ev (fun k => logbookref32_till.f k s 0 z) (s.size : Int) :=
 till_at s hs z s.size (Nat.le_refl _) (fun j hj e => h (by
  have hl : j < (bytesOf s).length := by rw [bytesOf_length]; exact hj
  rw [bt_get, List.getD_eq_getElem?_getD, List.getElem?_eq_getElem hl] at e
  rw [← show (bytesOf s)[j] = z from e]
  exact List.getElem_mem hl)) (.inl rfl) s.size 0 rfl
theorem till_yes (s : ByteArray) (hs : s.size ≤ 10000000) (z : Int) (l r : List Int) (h : bytesOf s = l ++ z :: r) (hz : z ∉ l) : Ev (fun k => logbookref32_till.f k s 0 z) (l.length : Int) := by
 have hsz := two_size h
 refine till_at s hs z l.length (by omega) (fun j hj e => hz ?_) (.inr ⟨by omega, ?_⟩) l.length 0 rfl
 ·rw [bt_get, h, List.getD_eq_getElem?_getD, List.getElem?_append_left hj, List.getElem?_eq_getElem hj] at e
  rw [← show l[j] = z from e]
  exact List.getElem_mem hj
 ·rw [bt_get, h, List.getD_eq_getElem?_getD, List.getElem?_append_right (Nat.le_refl _), Nat.sub_self]
  rfl
theorem till_any (s : ByteArray) (hs : s.size ≤ 10000000) (z : Int) (l r : List Int) (c : Int) (h : bytesOf s = l ++ c :: r) (hz : z ∉ l) : ∃ e : Nat, l.length ≤ e ∧ Ev (fun k => logbookref32_till.f k s 0 z) (e : Int) := by
 by_cases hm : z ∈ bytesOf s
 ·obtain ⟨a, b, h1, h2⟩ := mem_split _ hm
  refine ⟨a.length, ?_, till_yes s hs z a b h1 h2⟩
  rcases Nat.lt_or_ge a.length l.length with g | g
  ·exfalso
   have e1 : (bytesOf s)[a.length]? = some z := by rw [h1, List.getElem?_append_right (Nat.le_refl _), Nat.sub_self]; rfl
   rw [h, List.getElem?_append_left g, List.getElem?_eq_getElem g] at e1
   exact hz (by rw [← Option.some.inj e1]; exact List.getElem_mem g)
  ·exact g
 ·refine ⟨s.size, ?_, till_no s hs z hm⟩
  have := two_size h
  omega
theorem item_tail (s x t : ByteArray) (hI : Ev (fun k => logbookref32_Item.f k x) t) : ∃ b : Bool, (b = true ↔ bytesOf t ≠ [] ∧ ∃ R, bytesOf s = bytesOf t ++ R) ∧
  Ev (fun k => (logbookref32_Item.f k x).bind fun t200 => (if t200.toList = ([] : List UInt8) then (some (x, false)) else (if (t200.size : Int) ≤ (s.size : Int) then (if 0 ≤ (t200.size : Int) then (some (x, ((s.extract 0 ((t200.size : Int) : Int).toNat).toList == t200.toList))) else (none)) else (some (x, false))))) (x, b) := by
 by_cases h0 : t.toList = ([] : List UInt8)
 ·refine ⟨false, ⟨(fun h => by cases h), fun h => absurd ?_ h.1⟩, Ev.bind hI (Ev.pos h0 (Ev.now _))⟩
  exact List.eq_nil_of_length_eq_zero (by rw [bytesOf_length]; exact toList_eq_nil.1 h0)
 ·have hne : bytesOf t ≠ [] := fun e => h0 (toList_eq_nil.2 (by rw [← bytesOf_length, e]; rfl))
  by_cases hsz : t.size ≤ s.size
  ·refine ⟨((s.extract 0 ((t.size : Int)).toNat).toList == t.toList), ?_, Ev.bind hI (Ev.neg h0 (Ev.pos (by omega) (Ev.pos (by omega) (Ev.now _))))⟩
   rw [beq_iff_eq, toList_iff, Int.toNat_natCast, bytesOf_extract, List.drop_zero]
   constructor
   ·intro h
    refine ⟨hne, (bytesOf s).drop t.size, ?_⟩
    rw [← h, List.take_append_drop]
   ·rintro ⟨_, R, h⟩
    rw [h, ← bytesOf_length, List.take_left]
  ·refine ⟨false, ⟨(fun h => by cases h), fun h => ?_⟩, Ev.bind hI (Ev.neg h0 (Ev.neg (by omega) (Ev.now _)))⟩
   obtain ⟨_, R, h⟩ := h
   have e := congrArg List.length h
   rw [List.length_append, bytesOf_length, bytesOf_length] at e
   omega
theorem head_ne {l p q : List Int} {x y : Int} (h : l ++ x :: p = l ++ y :: q) : x = y ∧ p = q := by
 have e := List.append_cancel_left h
 injection e with e1 e2
 exact ⟨e1, e2⟩
theorem E0_bytes : bytesOf E0 = [] := rfl
theorem extract_pre (s : ByteArray) (l r : List Int) (hl : Bytes l) (h : bytesOf s = l ++ r) : s.extract 0 l.length = strOfNums l := by
 apply bytesOf_inj
 rw [bytesOf_extract, h, bytes_str hl, List.drop_zero, List.take_left]
/-- Both sides at a text: an item is read, or none. -/
def GoodS (s : ByteArray) (key v R : List Int) : Prop := bytesOf s = wb key v ++ R ∧ nameV (strOfNums key) = true ∧ Ev (fun k => export_field.f k s) (strOfNums key, strOfNums v, strOfNums R, true) ∧ Ev (fun k => logbookref32_item.f k s) (strOfNums (key ++ 61 :: v), true)
def Bad (s : ByteArray) : Prop := (∃ (key v r : ByteArray) (ok : Bool), Ev (fun k => export_field.f k s) (key, v, r, ok) ∧ key.size + v.size ≤ s.size ∧ (ok = true → nameV key = false)) ∧ ∃ x, Ev (fun k => logbookref32_item.f k s) (x, false)
theorem bool_no {b : Bool} {p : Prop} (h : b = true ↔ p) (hp : ¬ p) : b = false := by
 cases b with
 | false => rfl
 | true => exact absurd (h.1 rfl) hp
theorem step_none (s : ByteArray) (hs : s.size ≤ 1000000) (h : (10 : Int) ∉ bytesOf s) : Bad s := by
 refine ⟨⟨E0, E0, E0, false, field_no s h, Nat.zero_le _, (fun h => by cases h)⟩, ?_⟩
 have ht := till_no s (by omega) 10 h
 by_cases h6 : (61 : Int) ∈ bytesOf s
 ·obtain ⟨a, v, h1, h2⟩ := mem_split _ h6
  obtain ⟨ha, hv, _⟩ := two_bytes h1
  have hz := two_size h1
  have he : s.extract 0 ((s.size : Int)).toNat = strOfNums (a ++ 61 :: v) := by
   rw [Int.toNat_natCast]
   apply bytesOf_inj
   rw [bytesOf_extract, List.take_of_length_le (by rw [bytesOf_length]; exact Nat.le_refl _), List.drop_zero, ← h1, str_bytes]
  obtain ⟨b, hb, hE⟩ := item_tail s (strOfNums (a ++ 61 :: v)) _ (item_is a v ha hv h2 (by omega))
  have hbf : b = false := bool_no hb (by
   rintro ⟨g1, R, g2⟩
   by_cases hn : nameV (strOfNums a) = true
   ·rw [if_pos hn, bytes_str (wb_bytes ha hv)] at g2
    refine h ?_
    rw [g2]
    refine List.mem_append_left _ ?_
    unfold wb
    split <;> simp
   ·rw [if_neg hn] at g1
    exact g1 E0_bytes)
  subst hbf
  refine ⟨strOfNums (a ++ 61 :: v), Ev.pos (by omega) (Ev.bind ht (Ev.bind (till_yes s (by omega) 61 a v h1 h2) (Ev.pos (by omega) (Ev.pos (by omega) (Ev.pos (by omega) ?_)))))⟩
  rw [he]
  exact hE
 ·refine ⟨E0, Ev.pos (by omega) (Ev.bind ht (Ev.bind (till_no s (by omega) 61 h6) (Ev.neg (by omega) ?_)))⟩
  have hm : mn (wrap64 ((s.size : Int) + 9)) (s.size : Int) = (s.size : Int) := by
   unfold mn wrap64
   split <;> omega
  have hg := refget_short (bytesOf (s.extract 0 ((s.size : Int)).toNat)) (s.size + 1) (by rw [bytesOf_length, Int.toNat_natCast, ByteArray.size_extract]; omega) (by omega) (by rw [bytesOf_length, Int.toNat_natCast, ByteArray.size_extract]; omega)
  rw [hm, wi1 (i := s.size) (n := s.size) (by omega) (by omega)]
  exact Ev.pos (by omega) (Ev.pos (by omega) (Ev.bind (g := fun k => getR.f k (s.extract 0 ((s.size : Int)).toNat) ((s.size + 1 : Nat) : Int)) hg (Ev.neg (by decide) (Ev.now _))))
theorem step_eq (s : ByteArray) (hs : s.size ≤ 1000000) (a v r : List Int) (h : bytesOf s = (a ++ 61 :: v) ++ 10 :: r) (h10 : (10 : Int) ∉ a ++ 61 :: v) (h61 : (61 : Int) ∉ a) : GoodS s a v r ∨ Bad s := by
 obtain ⟨hb, hr, _⟩ := two_bytes h
 have hz := two_size h
 rw [List.length_append, List.length_cons] at hz
 have ha : Bytes a := fun x hx => hb x (by simp [hx])
 have hv : Bytes v := fun x hx => hb x (by simp [hx])
 have hf := field_eq s (by omega) a v r h h10 h61
 have h' : bytesOf s = a ++ 61 :: (v ++ 10 :: r) := by rw [h]; simp
 have he : s.extract 0 (((a ++ 61 :: v).length : Nat) : Int).toNat = strOfNums (a ++ 61 :: v) := by
  rw [Int.toNat_natCast]
  exact extract_pre s _ _ hb h
 obtain ⟨b, hb2, hE⟩ := item_tail s (strOfNums (a ++ 61 :: v)) _ (item_is a v ha hv h61 (by omega))
 have hlen : (a ++ 61 :: v).length = a.length + 1 + v.length := by
  rw [List.length_append, List.length_cons]
  omega
 have hI : Ev (fun k => logbookref32_item.f k s) (strOfNums (a ++ 61 :: v), b) := by
  refine Ev.pos (by omega) (Ev.bind (till_yes s (by omega) 10 _ r h h10) (Ev.bind (till_yes s (by omega) 61 a _ h' h61) (Ev.pos (by omega) (Ev.pos (by omega) (Ev.pos (by omega) ?_)))))
  rw [he]
  exact hE
 by_cases hn : nameV (strOfNums a) = true
 ·rw [if_pos hn, bytes_str (wb_bytes ha hv)] at hb2
  cases hp : v.all printB with
  | true =>
   have hw : bytesOf s = wb a v ++ r := by
    unfold wb
    rw [if_pos hp, h]
    simp
   have hbt : b = true := hb2.2 ⟨by unfold wb; rw [if_pos hp]; simp, r, hw⟩
   rw [hp] at hf
   rw [hbt] at hI
   exact .inl ⟨hw, hn, hf, hI⟩
  | false =>
   have hbf : b = false := bool_no hb2 (by
    rintro ⟨_, R, g⟩
    unfold wb at g
    rw [if_neg (by rw [hp]; decide), h', List.append_assoc, List.cons_append] at g
    exact absurd (head_ne g).1 (by decide))
   rw [hp] at hf
   rw [hbf] at hI
   exact .inr ⟨⟨_, _, _, _, hf, by rw [size_str, size_str]; omega, (fun h => by cases h)⟩, _, hI⟩
 ·rw [if_neg hn] at hb2
  have hbf : b = false := bool_no hb2 (fun g => g.1 E0_bytes)
  rw [hbf] at hI
  exact .inr ⟨⟨_, _, _, _, hf, by rw [size_str, size_str]; omega, fun _ => Bool.eq_false_iff.2 hn⟩, _, hI⟩
end RC
namespace RD
open Cu EW RA RB RC
structure Kp (p : Prop) : Prop where
 out : p
theorem item_bin_short (s : ByteArray) (hs : s.size ≤ 1000000) (l r : List Int) (h : bytesOf s = l ++ 10 :: r) (h10 : (10 : Int) ∉ l) (h61 : (61 : Int) ∉ l) (h8 : r.length < 8) : Ev (fun k => logbookref32_item.f k s) (E0, false) := by
 have hz := two_size h
 obtain ⟨e, he, hE⟩ := till_any s (by omega) 61 l r 10 h h61
 refine Ev.pos (by omega) (Ev.bind (till_yes s (by omega) 10 l r h h10) (Ev.bind hE (Ev.neg (by omega) ?_)))
 have hm : mn (wrap64 ((l.length : Int) + 9)) (s.size : Int) = (s.size : Int) := by
  unfold mn wrap64
  split <;> omega
 have hg := refget_short (bytesOf (s.extract 0 ((s.size : Int)).toNat)) (l.length + 1) (by rw [bytesOf_length, Int.toNat_natCast, ByteArray.size_extract]; omega) (by omega) (by rw [bytesOf_length, Int.toNat_natCast, ByteArray.size_extract]; omega)
 rw [hm, wi1 (i := l.length) (n := s.size) (by omega) (by omega)]
 exact Ev.pos (by omega) (Ev.pos (by omega) (Ev.bind (g := fun k => getR.f k (s.extract 0 ((s.size : Int)).toNat) ((l.length + 1 : Nat) : Int)) hg (Ev.neg (by decide) (Ev.now _))))
theorem item_bin_pre (s : ByteArray) (hs : s.size ≤ 1000000) (l r : List Int) (h : bytesOf s = l ++ 10 :: r) (h10 : (10 : Int) ∉ l) (h61 : (61 : Int) ∉ l) (h8 : 8 ≤ r.length) :
  ∃ n : Nat, leV (r.take 8) = (n : Int) ∧ ((1024 < n ∨ r.length < 8 + n) → Ev (fun k => logbookref32_item.f k s) (E0, false)) ∧
  (n ≤ 1024 → 8 + n ≤ r.length → ∃ b : Bool, (b = true ↔ nameV (strOfNums l) = true ∧ ∃ R, bytesOf s = wb l ((r.drop 8).take n) ++ R) ∧ Ev (fun k => logbookref32_item.f k s) (strOfNums (l ++ 61 :: ((r.drop 8).take n)), b)) := by
 have hz := two_size h
 obtain ⟨hb, hr, _⟩ := two_bytes h
 obtain ⟨e, he, hE⟩ := till_any s (by omega) 61 l r 10 h h61
 have hm : mn (wrap64 ((l.length : Int) + 9)) (s.size : Int) = ((l.length + 9 : Nat) : Int) := by
  unfold mn wrap64
  split <;> omega
 have hB : bytesOf (s.extract 0 (((l.length + 9 : Nat) : Int)).toNat) = l ++ 10 :: r.take 8 := by
  rw [Int.toNat_natCast, bytesOf_extract, List.drop_zero, h, List.take_append, List.take_of_length_le (by omega), show l.length + 9 - l.length = 8 + 1 by omega, List.take_succ_cons]
 have hBl : (l ++ 10 :: r.take 8).length = l.length + 9 := by
  rw [List.length_append, List.length_cons, List.length_take]
  omega
 have hBd : ((l ++ 10 :: r.take 8).drop (l.length + 1)).take 8 = r.take 8 := by
  rw [← List.drop_drop, List.drop_left, List.drop_succ_cons, List.drop_zero, List.take_take]
  rfl
 have hg := refget_full (bytesOf (s.extract 0 (((l.length + 9 : Nat) : Int)).toNat)) (l.length + 1) (by rw [hB, hBl]; omega) (bytesOf_bytes _) (by rw [hB, hBl]; omega)
 rw [hB, hBd] at hg
 have hu := leV_u64 (l := r.take 8) (fun x hx => hr x (List.mem_of_mem_take hx)) (by rw [List.length_take]; omega)
 obtain ⟨n, hn⟩ := Int.eq_ofNat_of_zero_le hu.1
 rw [hn, ← hB] at hg
 have hgR : Ev (fun k => getR.f k (s.extract 0 (((l.length + 9 : Nat) : Int)).toNat) ((l.length + 1 : Nat) : Int)) ((n : Int), true) := hg
 clear hg
 have w1 : IntKind.u64.wrap (wrap64 (wrap64 ((s.size : Int) - (l.length : Int)) - 9)) = ((r.length - 8 : Nat) : Int) := by
  rw [w64 (x := (s.size : Int) - (l.length : Int)) (by omega) (by omega), w64 (by omega) (by omega), wu64 (by omega) (by omega)]
  omega
 have w9 : wrap64 ((l.length : Int) + 9) = ((l.length + 9 : Nat) : Int) := by
  unfold wrap64
  omega
 have W1 := Kp.mk w1
 have W9 := Kp.mk w9
 have HM := Kp.mk hm
 clear w1 w9 hm hu hBd hB hBl
 refine ⟨n, hn, fun hc => ?_, fun h1 h2 => ?_⟩
 ·refine Ev.pos (by omega) (Ev.bind (till_yes s (by omega) 10 l r h h10) (Ev.bind hE (Ev.neg (by omega) ?_)))
  rw [HM.out, wi1 (i := l.length) (n := s.size) (by omega) (by omega)]
  refine Ev.pos (by omega) ?_
  refine Ev.pos (by omega) ?_
  refine Ev.bind hgR ?_
  refine Ev.pos (by rfl) ?_
  by_cases h1 : 1024 < n
  ·exact Ev.pos (by omega) (Ev.now _)
  ·refine Ev.neg (by omega) ?_
   rw [W1.out]
   exact Ev.pos (by omega) (Ev.now _)
 ·have hv : Bytes ((r.drop 8).take n) := fun x hx => hr x (List.mem_of_mem_drop (List.mem_of_mem_take hx))
  have hvl : ((r.drop 8).take n).length = n := by
   rw [List.length_take, List.length_drop]
   omega
  obtain ⟨b, hb2, hE2⟩ := item_tail s (strOfNums (l ++ 61 :: ((r.drop 8).take n))) _ (item_is l _ hb hv h61 (by omega))
  refine ⟨b, ?_, ?_⟩
  ·rw [hb2]
   by_cases hnm : nameV (strOfNums l) = true
   ·rw [if_pos hnm, bytes_str (wb_bytes hb hv)]
    exact ⟨fun g => ⟨hnm, g.2⟩, fun g => ⟨by unfold wb; split <;> simp, g.2⟩⟩
   ·rw [if_neg hnm]
    exact ⟨fun g => absurd E0_bytes g.1, fun g => absurd g.1 hnm⟩
  ·have WN : Kp (wrap64 (n : Int) = (n : Int)) := ⟨by
    unfold wrap64
    omega⟩
   have W2 : Kp (wrap64 (((l.length + 9 : Nat) : Int) + (n : Int)) = ((l.length + 9 + n : Nat) : Int)) := ⟨by
    unfold wrap64
    omega⟩
   have x1 : s.extract 0 ((l.length : Int)).toNat = strOfNums l := by
    rw [Int.toNat_natCast]
    exact extract_pre s l _ hb h
   have x2 : s.extract (((l.length + 9 : Nat) : Int)).toNat (((l.length + 9 + n : Nat) : Int)).toNat = strOfNums ((r.drop 8).take n) := by
    rw [Int.toNat_natCast, Int.toNat_natCast]
    apply bytesOf_inj
    rw [bytesOf_extract, bytes_str hv, h, List.drop_take, show l.length + 9 = l.length + (1 + 8) by omega, ← List.drop_drop, List.drop_left, ← List.drop_drop, List.drop_succ_cons, List.drop_zero, show l.length + (1 + 8) + n - (l.length + (1 + 8)) = n by omega]
   have z1 : (strOfNums l).size = l.length := size_str l
   have z2 : (strOfNums ((r.drop 8).take n)).size = n := by rw [size_str, hvl]
   refine Ev.pos (by omega) (Ev.bind (till_yes s (by omega) 10 l r h h10) (Ev.bind hE (Ev.neg (by omega) ?_)))
   rw [HM.out, wi1 (i := l.length) (n := s.size) (by omega) (by omega)]
   refine Ev.pos (by omega) (Ev.pos (by omega) (Ev.bind hgR (Ev.pos rfl (Ev.neg (by omega) ?_))))
   rw [W1.out, W9.out, WN.out, W2.out, x1, x2, z1, z2]
   refine Ev.neg (by omega) (Ev.pos (by omega) (Ev.pos (by omega) (Ev.pos (by omega) (Ev.pos (by omega) (Ev.pos (by omega) (Ev.pos (by omega) (Ev.pos (by omega) ?_)))))))
   rw [show ((strOfNums l ++ (⟨#[61]⟩ : ByteArray)) ++ strOfNums ((r.drop 8).take n)) = strOfNums (l ++ 61 :: ((r.drop 8).take n)) by rw [show (⟨#[61]⟩ : ByteArray) = strOfNums [61] from rfl, str_append, str_append]; simp]
   exact hE2
theorem drop_parts {n : Nat} {r : List Int} (A V R : List Int) (hA : A.length = 8) (hV : V.length = n) (h : r = (A ++ (V ++ [10])) ++ R) : R = r.drop (9 + n) := by
 rw [h, List.drop_left' (by rw [List.length_append, List.length_append, hA, hV]; simp; omega)]
theorem step_bin (s : ByteArray) (hs : s.size ≤ 1000000) (l r : List Int) (h : bytesOf s = l ++ 10 :: r) (h10 : (10 : Int) ∉ l) (h61 : (61 : Int) ∉ l) : (∃ v R, GoodS s l v R) ∨ Bad s := by
 have hz := two_size h
 obtain ⟨hb, hr, _⟩ := two_bytes h
 -- what the program answers, where the field's name is bad, or nothing is there
 have hP : (l ≠ [] ∧ binOk r ∧ Ev (fun k => export_field.f k s) (strOfNums l, strOfNums ((r.drop 8).take (leV (r.take 8)).toNat), strOfNums (r.drop (9 + (leV (r.take 8)).toNat)), !(((r.drop 8).take (leV (r.take 8)).toNat).all printB))) ∨ ((l = [] ∨ ¬ binOk r) ∧ Ev (fun k => export_field.f k s) (E0, E0, E0, false)) := by
  by_cases hl : l = []
  ·subst hl
   exact .inr ⟨.inl rfl, field_empty s (by omega) r h⟩
  ·rcases field_bin s (by omega) l r h h10 h61 hl with ⟨g1, g2⟩ | ⟨g1, g2⟩
   ·exact .inl ⟨hl, g1, g2⟩
   ·exact .inr ⟨.inr g1, g2⟩
 have no : ∀ x, Ev (fun k => logbookref32_item.f k s) (x, false) → (¬ binOk r ∨ nameV (strOfNums l) = false ∨ ((r.drop 8).take (leV (r.take 8)).toNat).all printB = true) → Bad s := fun x hx hc => by
  rcases hP with ⟨g1, g2, g3⟩ | ⟨_, g3⟩
  ·refine ⟨⟨_, _, _, _, g3, ?_, fun hok => ?_⟩, x, hx⟩
   ·rw [size_str, size_str, List.length_take, List.length_drop]
    omega
   ·rcases hc with hc | hc | hc
    ·exact absurd g2 hc
    ·exact hc
    ·rw [hc] at hok
     cases hok
  ·exact ⟨⟨E0, E0, E0, false, g3, Nat.zero_le _, (fun h => by cases h)⟩, x, hx⟩
 by_cases h8 : r.length < 8
 ·exact .inr (no _ (item_bin_short s hs l r h h10 h61 h8) (.inl (fun g => by have := g.1; omega)))
 ·obtain ⟨n, hn, q1, q2⟩ := item_bin_pre s hs l r h h10 h61 (by omega)
  by_cases hc : 1024 < n ∨ r.length < 8 + n
  ·refine .inr (no _ (q1 hc) (.inl (fun g => ?_)))
   unfold binOk at g
   rw [hn, Int.toNat_natCast] at g
   omega
  ·obtain ⟨b, hb2, hE⟩ := q2 (by omega) (by omega)
   rw [hn, Int.toNat_natCast] at no hP
   have hvl : ((r.drop 8).take n).length = n := by
    rw [List.length_take, List.length_drop]
    omega
   have pre : ∀ R, bytesOf s = wb l ((r.drop 8).take n) ++ R → binOk r ∧ ((r.drop 8).take n).all printB = false := fun R g => by
    rw [h] at g
    unfold wb at g
    cases hp : ((r.drop 8).take n).all printB with
    | true =>
     rw [hp, if_pos rfl, List.append_assoc, List.cons_append] at g
     exact absurd (head_ne g).1 (by decide)
    | false =>
     rw [hp, if_neg (by decide), List.append_assoc, List.cons_append] at g
     have g2 := (head_ne g).2
     refine ⟨?_, rfl⟩
     have hlen := congrArg List.length g2
     simp only [List.length_append, leGo_len, hvl, List.length_cons, List.length_nil] at hlen
     have hget : r.getD (8 + n) 0 = 10 := by
      rw [g2, List.getD_eq_getElem?_getD, List.append_assoc, List.getElem?_append_right (by rw [leGo_len]; omega), leGo_len, List.append_assoc, List.getElem?_append_right (by rw [hvl]; omega), hvl, show 8 + n - 8 - n = 0 by omega]
      rfl
     unfold binOk
     rw [hn, Int.toNat_natCast]
     exact ⟨by omega, by omega, by omega, hget⟩
   by_cases hg : nameV (strOfNums l) = true ∧ ∃ R, bytesOf s = wb l ((r.drop 8).take n) ++ R
   ·obtain ⟨hnm, R, hR⟩ := hg
    obtain ⟨hbk, hpf⟩ := pre R hR
    rcases hP with ⟨_, _, g3⟩ | ⟨g1, _⟩
    ·rw [hpf] at g3
     have hRe : R = r.drop (9 + n) := by
      have g := hR
      rw [h] at g
      unfold wb at g
      rw [hpf, if_neg (by decide), List.append_assoc, List.cons_append] at g
      exact drop_parts _ _ R (leGo_len 8 _) hvl (head_ne g).2
     have hbt : b = true := hb2.2 ⟨hnm, R, hR⟩
     rw [hbt] at hE
     refine .inl ⟨_, R, hR, hnm, ?_, hE⟩
     rw [hRe]
     exact g3
    ·rcases g1 with g1 | g1
     ·have := name_ok hb hnm
      exact absurd g1 this.2.2
     ·exact absurd hbk g1
   ·have hbf := bool_no hb2 hg
    rw [hbf] at hE
    refine .inr (no _ hE ?_)
    by_cases hk : binOk r
    ·by_cases hnm : nameV (strOfNums l) = true
     ·refine .inr (.inr ?_)
      cases hp : ((r.drop 8).take n).all printB with
      | true => rfl
      | false =>
       refine absurd ⟨hnm, r.drop (9 + n), ?_⟩ hg
       unfold wb
       rw [hp, if_neg (by decide), h, hvl, ← hn, leGo_leV (by rw [List.length_take]; omega) (fun x hx => hr x (List.mem_of_mem_take hx)), List.append_assoc, List.cons_append]
       congr 2
       unfold binOk at hk
       rw [hn, Int.toNat_natCast] at hk
       have e1 : r.drop 8 = (r.drop 8).take n ++ (10 :: r.drop (9 + n)) := by
        have e2 : (r.drop 8).drop n = 10 :: r.drop (9 + n) := by
         rw [List.drop_drop, List.drop_eq_getElem_cons (by omega), show 8 + n + 1 = 9 + n by omega]
         congr 1
         have := hk.2.2.2
         rw [List.getD_eq_getElem?_getD, List.getElem?_eq_getElem (by omega)] at this
         exact this
        rw [← e2, List.take_append_drop]
       rw [List.append_assoc, List.append_assoc, show ([10] : List Int) ++ r.drop (9 + n) = 10 :: r.drop (9 + n) from rfl, ← e1, List.take_append_drop]
     ·exact .inr (.inl (Bool.eq_false_iff.2 hnm))
    ·exact .inl hk
theorem step_all (s : ByteArray) (hs : s.size ≤ 1000000) : (∃ key v R, GoodS s key v R) ∨ Bad s := by
 by_cases h10 : (10 : Int) ∈ bytesOf s
 ·obtain ⟨l, r, h, hl⟩ := mem_split _ h10
  by_cases h61 : (61 : Int) ∈ l
  ·obtain ⟨a, v, e, ha⟩ := mem_split _ h61
   subst e
   rcases step_eq s hs a v r h hl ha with g | g
   ·exact .inl ⟨_, _, _, g⟩
   ·exact .inr g
  ·rcases step_bin s hs l r h hl h61 with ⟨v, R, g⟩ | g
   ·exact .inl ⟨_, _, _, g⟩
   ·exact .inr g
 ·exact .inr (step_none s hs h10)
end RD
end Go.Proofs.YtbbegchdlkmebaaDoor.Pure
