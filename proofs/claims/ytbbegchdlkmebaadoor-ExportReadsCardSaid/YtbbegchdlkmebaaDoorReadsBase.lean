/- What ExportReads and ExportBack lean on: cursors, items and numbers, written and read: in plain Lean. -/
import Derived.Test.YtbbegchdlkmebaaDoorPExportReadsx2
import Derived.Test.YtbbegchdlkmebaaDoorPExportReadsx3
import Derived.Test.YtbbegchdlkmebaaDoorPExportReadsx4
import Derived.Test.YtbbegchdlkmebaaDoorPExportReadsx5
import Derived.Test.YtbbegchdlkmebaaDoorPExportReadsx7
import Derived.Test.YtbbegchdlkmebaaDoorPExportReadsx8
import Derived.Test.YtbbegchdlkmebaaDoorPExportReadsx9
import Derived.Test.YtbbegchdlkmebaaDoorPExportReadsx10
import Derived.Test.YtbbegchdlkmebaaDoorPExportReadsx11
import Derived.Test.YtbbegchdlkmebaaDoorHex
import Derived.Test.YtbbegchdlkmebaaDoorCut
import Derived.Test.YtbbegchdlkmebaaDoorDec
import Derived.Test.YtbbegchdlkmebaaDoorStr
import Derived.Test.YtbbegchdlkmebaaDoorEvs
namespace Go.Proofs.YtbbegchdlkmebaaDoor.Pure
open Go.RowKit Go.Proofs.YtbbegchdlkmebaaDoor.PExportReads Go.Proofs.YtbbegchdlkmebaaDoorW.PrintWords Go.Proofs.YtbbegchdlkmebaaDoorW.PrintLast Go.Proofs.YtbbegchdlkmebaaDoorW.PrintMore Go.Proofs.YtbbegchdlkmebaaDoor.Evs Go.Proofs.YtbbegchdlkmebaaDoor.Str Go.Proofs.YtbbegchdlkmebaaDoor.Conv Go.Proofs.YtbbegchdlkmebaaDoor.Hex Go.Proofs.YtbbegchdlkmebaaDoor.Cut Go.Proofs.YtbbegchdlkmebaaDoor.Dec
set_option linter.unusedVariables false
set_option linter.unusedSimpArgs false
namespace Cu
theorem hex_f (n : Int) (h : U64 n) : name_Hex.f n = some (strOfNums (hexL n)) := if_pos h
theorem trim_go : ∀ (d : Nat) (l : List Int), l.length = d → Bytes l → d ≤ 100000000 → Ev (fun k => strings_trimLeftByte.l0 k (strOfNums l) 48) (strOfNums (trim0 l))
 | 0, l, hl, hb, hd => by
  obtain rfl := List.eq_nil_of_length_eq_zero hl
  exact Ev.step (fun k => strings_trimLeftByte.l0.eq_2 _ _ _) (Ev.neg (by rw [size_str]; simp) (Ev.now _))
 | d + 1, c :: l, hl, hb, hd => by
  have hs : (strOfNums (c :: l)).size = d + 1 := by rw [size_str]; exact hl
  have h0 : bt (strOfNums (c :: l)) 0 = c := by
   have := bt_get (strOfNums (c :: l)) 0
   rw [bytes_str hb] at this
   exact this
  have he : (strOfNums (c :: l)).extract 1 (strOfNums (c :: l)).size = strOfNums l := by
   apply bytesOf_inj
   have hb2 : Bytes l := fun x hx => hb x (List.mem_cons_of_mem _ hx)
   rw [bytesOf_extract, bytes_str hb, bytes_str hb2, List.take_of_length_le (by rw [hs]; omega)]
   rfl
  refine Ev.step (fun k => strings_trimLeftByte.l0.eq_2 _ _ _) (Ev.pos (by omega) (Ev.pos (by omega) ?_))
  rw [h0, he]
  refine Ev.both (fun h => Ev.pos (by omega) ?_) (fun h => Ev.eq (Ev.now _) ?_)
  ·subst h
   have ih := trim_go d l (by simpa using hl) (fun x hx => hb x (List.mem_cons_of_mem _ hx)) (by omega)
   have e : trim0 (48 :: l) = trim0 l := by
    unfold trim0
    rw [List.dropWhile_cons_of_pos (by simp)]
   rw [e]
   exact ih
  ·unfold trim0
   rw [List.dropWhile_cons_of_neg (by simpa using h)]
theorem hexs_tells (n : Int) (h : U64 n) : Ev (fun k => cursor_Hex.f k n) (strOfNums (hexS n)) := by
 have hb : Bytes (hexL n) := isX_byte (hexL_isX n)
 have htb : Bytes (trim0 (hexL n)) := fun x hx => hb x (trim_mem hx)
 have ht : Ev (fun k => strings_TrimLeft.f k (strOfNums (hexL n)) (⟨#[48]⟩ : ByteArray)) (strOfNums (trim0 (hexL n))) := by
  have e48 : bt (⟨#[48]⟩ : ByteArray) 0 = 48 := rfl
  refine Ev.pos ⟨rfl, by rw [e48]; decide⟩ (Ev.neg ?_ ?_)
  ·rw [size_str, hexL_len]
   decide
  ·rw [e48]
   have := trim_go 16 (hexL n) (hexL_len n) hb (by decide)
   exact this
 refine Ev.bindc (hex_f n h) (Ev.bind ht ?_)
 unfold hexS
 by_cases e : trim0 (hexL n) = []
 ·rw [if_pos e]
  exact Ev.pos (toList_eq_nil.2 (by rw [size_str, e]; rfl)) (Ev.now _)
 ·rw [if_neg e]
  refine Ev.neg (fun e2 => e ?_) (Ev.now _)
  have := toList_eq_nil.1 e2
  rw [size_str] at this
  exact List.eq_nil_of_length_eq_zero this
theorem wn {i n : Nat} (h : i ≤ n) (hn : n ≤ 100000000) : wrap64 ((i : Int) + 1) = ((i + 1 : Nat) : Int) := by
 rw [w64 (by omega) (by omega)]
 omega
theorem wm {i n : Nat} (h : i ≤ n) (hn : n ≤ 100000000) : wrap64 ((i : Int) + 0) = (i : Int) := by
 rw [w64 (by omega) (by omega)]
 omega
/-! ### strings.Split at a sign -/
def sepZ (z : UInt8) : ByteArray := ⟨#[z]⟩
theorem sep_size (z : UInt8) : (((sepZ z).size : Nat) : Int) = 1 := rfl
theorem wsep {m n : Nat} (z : UInt8) (h : m ≤ n) (hn : n ≤ 100000000) : wrap64 ((m : Int) + (((sepZ z).size : Nat) : Int)) = ((m + 1 : Nat) : Int) := by
 have h1 := sep_size z
 generalize (((sepZ z).size : Nat) : Int) = y at h1 ⊢
 subst h1
 exact wn h hn
theorem lindex_tells (z : UInt8) (s : ByteArray) : stringslite_Index.f s (sepZ z) = some (idxC (z.toNat : Int) (bytesOf s)) := by
 have e : stringslite_Index.f s (sepZ z) = some (Lib.indexByte s.data.toList z) := rfl
 rw [e, idxC_eq]
 rfl
theorem index_tells (z : UInt8) (s : ByteArray) : strings_Index.f s (sepZ z) = some (idxC (z.toNat : Int) (bytesOf s)) := by
 unfold strings_Index.f
 rw [lindex_tells]
 rfl
theorem count_tells (z : UInt8) (s : ByteArray) : strings_Count.f s (sepZ z) = some (((bytesOf s).count (z.toNat : Int) : Nat) : Int) := by
 have e : strings_Count.f s (sepZ z) = some ((Lib.countByte s.data.toList z : Nat) : Int) := rfl
 rw [e, cntC_eq]
 rfl
theorem take_set {α : Type} (l : List α) (i : Nat) (x : α) (h : i < l.length) : (l.set i x).take (i + 1) = l.take i ++ [x] := by
 rw [List.take_succ_eq_append_getElem (by rw [List.length_set]; exact h), List.getElem_set_self]
 congr 1
 rw [List.take_set_of_le (Nat.le_refl _)]
theorem split_go (z : UInt8) (n : Nat) (hn : n ≤ 10000000) : ∀ (d i : Nat) (s : ByteArray) (x9 : List ByteArray), d + i = n → (bytesOf s).count (z.toNat : Int) = d → x9.length = n + 1 → s.size ≤ 10000000 →
  Ev (fun k => strings_genSplit.l0 k s (sepZ z) 0 n x9 i) (x9.take i ++ (cutC (z.toNat : Int) (bytesOf s)).map strOfNums)
 | d, i, s, x9, hd, hc, hx, hs => by
  have b0 : i ≤ n := by omega
  have b3 : n ≤ 100000000 := by omega
  have fin : (bytesOf s).count (z.toNat : Int) = 0 → (x9.set (i : Int).toNat s).take ((i + 1 : Nat) : Int).toNat = x9.take i ++ (cutC (z.toNat : Int) (bytesOf s)).map strOfNums := by
   intro h0
   rw [Int.toNat_natCast, Int.toNat_natCast, take_set _ _ _ (by omega), cutC_none _ _ h0]
   simp [str_bytes]
  refine Ev.step (fun k => strings_genSplit.l0.eq_2 _ _ _ _ _ _ _) ?_
  rw [wn b0 b3]
  match d, hd, hc with
  | 0, hd, hc =>
   refine Ev.neg (by omega) (Ev.pos (by omega) (Ev.pos (by omega) (Ev.pos (by omega) (Ev.pos (by omega) (Ev.eq (Ev.now _) (fin hc))))))
  | d + 1, hd, hc =>
   obtain ⟨m, h1, h2, h3, h4, _, _⟩ := idxC_hit (z.toNat : Int) (bytesOf s) (by omega)
   have hl : (bytesOf s).length = s.size := bytesOf_length s
   have b1 : m ≤ s.size := by omega
   have b2 : s.size ≤ 100000000 := by omega
   refine Ev.pos (by omega) (Ev.bindc (a := (m : Int)) (by rw [index_tells, h1]) ?_)
   rw [wm b1 b2, wsep z b1 b2]
   refine Ev.neg (by omega) (Ev.pos (by omega) (Ev.pos (by omega) (Ev.pos (by omega) (Ev.pos (by omega) (Ev.pos (by omega) (Ev.pos (by omega) ?_))))))
   have e1 : bytesOf (s.extract (m + 1) s.size) = (bytesOf s).drop (m + 1) := by
    rw [bytesOf_extract, List.take_of_length_le (by omega)]
   have hsz : (s.extract (m + 1) s.size).size ≤ 10000000 := by
    rw [ByteArray.size_extract]
    omega
   have ih := split_go z n hn d (i + 1) (s.extract (m + 1) s.size) (x9.set i (s.extract 0 m)) (by omega) (by rw [e1]; omega) (by rw [List.length_set]; exact hx) hsz
   rw [e1, take_set _ _ _ (by omega)] at ih
   rw [Int.toNat_natCast, Int.toNat_natCast, Int.toNat_natCast]
   refine Ev.eq ih ?_
   rw [h3, List.append_assoc]
   congr 1
   show s.extract 0 m :: _ = strOfNums _ :: _
   rw [pieceS s 0 m]
   rfl
theorem split_tells (z : UInt8) (s : ByteArray) (hs : s.size ≤ 10000000) : Ev (fun k => strings_Split.f k s (sepZ z)) ((cutC (z.toNat : Int) (bytesOf s)).map strOfNums) := by
 have hc : (bytesOf s).count (z.toNat : Int) ≤ s.size := by
  rw [← bytesOf_length]
  exact List.count_le_length
 have hn := wn (i := (bytesOf s).count (z.toNat : Int)) (n := s.size) hc (by omega)
 have hs1 := wn (i := s.size) (n := s.size) (Nat.le_refl _) (by omega)
 refine Ev.bind (f := fun k a => some a) (g := fun k => strings_genSplit.f k s (sepZ z) 0 (-1)) ?_ (Ev.now _)
 refine Ev.neg (by decide) (Ev.neg (fun e => by have h1 : (sepZ z).size = 0 := toList_eq_nil.1 e; have h2 : (sepZ z).size = 1 := rfl; omega) (Ev.pos (by decide) (Ev.bindc (count_tells z s) ?_)))
 rw [hn]
 refine Ev.step (fun k => strings_genSplit.j0.eq_2 _ _ _ _ _) ?_
 have hm : mn (((bytesOf s).count (z.toNat : Int) + 1 : Nat) : Int) (wrap64 ((s.size : Int) + 1)) = (((bytesOf s).count (z.toNat : Int) + 1 : Nat) : Int) := by
  rw [hs1]
  unfold mn
  exact if_neg (by omega)
 have h1 : wrap64 ((((bytesOf s).count (z.toNat : Int) + 1 : Nat) : Int) - 1) = (((bytesOf s).count (z.toNat : Int) : Nat) : Int) := by
  rw [w64 (by omega) (by omega)]
  omega
 rw [hm, h1]
 refine Ev.pos (by omega) (Ev.pos (by omega) ?_)
 have := split_go z ((bytesOf s).count (z.toNat : Int)) (by omega) ((bytesOf s).count (z.toNat : Int)) 0 s (List.replicate ((((bytesOf s).count (z.toNat : Int) + 1 : Nat) : Int)).toNat (⟨#[]⟩ : ByteArray)) (by omega) rfl (by rw [List.length_replicate]; omega) hs
 exact this
/-! ### strings.Cut at a sign -/
theorem cut_no (z : UInt8) (s : ByteArray) (h : (bytesOf s).count (z.toNat : Int) = 0) : strings_Cut.f s (sepZ z) = some (s, (⟨#[]⟩ : ByteArray), false) := by
 unfold strings_Cut.f stringslite_Cut.f
 rw [lindex_tells, idxC_miss _ _ h]
 rfl
theorem cut_yes (z : UInt8) (s : ByteArray) (hs : s.size ≤ 10000000) (h : (bytesOf s).count (z.toNat : Int) ≠ 0) : ∃ a b, strings_Cut.f s (sepZ z) = some (strOfNums a, strOfNums b, true) ∧ bytesOf s = a ++ (z.toNat : Int) :: b ∧ (z.toNat : Int) ∉ a := by
 obtain ⟨m, h1, h2, _, _, h5, h6⟩ := idxC_hit (z.toNat : Int) (bytesOf s) h
 have hl : (bytesOf s).length = s.size := bytesOf_length s
 refine ⟨_, _, ?_, h5, h6⟩
 unfold strings_Cut.f stringslite_Cut.f
 have hw := wsep z (m := m) (n := s.size) (by omega) (by omega)
 rw [lindex_tells, h1]
 simp only [Option.bind_some]
 rw [if_pos (by omega), if_pos (by omega), if_pos (by omega), hw, if_pos (by omega), if_pos (by omega)]
 simp only [Option.bind_some]
 rw [Int.toNat_natCast, Int.toNat_natCast, pieceS s 0 m, pieceS s (m + 1) s.size, List.take_of_length_le (i := s.size) (by omega), List.drop_zero]
/-! ### numbers of sixteen digits, and without noughts ahead -/
theorem hexC_yes {c : Int} (h : isX c = true) : hexC c = some (hv c) := by
 have h2 := isX_iff.1 h
 unfold hexC hv
 by_cases g : 48 ≤ c ∧ c ≤ 57
 ·rw [if_pos g, if_pos (by omega)]
 ·rw [if_neg g, if_pos (by omega), if_neg (by omega)]
theorem hexC_no {c : Int} (h : ¬ isX c = true) : hexC c = none := by
 rw [isX_iff] at h
 unfold hexC
 rw [if_neg (by omega), if_neg (by omega)]
theorem p16le {j : Nat} (h : j ≤ 15) : (16 : Int) ^ j ≤ 16 ^ 15 := by exact_mod_cast Nat.pow_le_pow_right (by decide) h
theorem p15 : (16 : Int) ^ 15 = 1152921504606846976 := by decide
theorem numX_yes : ∀ (l : List Int) (a : Int) (j : Nat), (∀ x ∈ l, isX x = true) → 0 ≤ a → a < 16 ^ j → j + l.length ≤ 16 → numX l a = some (vx a l)
  | [], a, j, _, _, _, _ => rfl
  | c :: r, a, j, h, h0, h1, hl => by
    have hc := hv_in (h c (by simp))
    have hp := p16le (j := j) (by simp at hl; omega)
    rw [p15] at hp
    have e : a * 16 % 18446744073709551616 + hv c = 16 * a + hv c := by omega
    have ih := numX_yes r (16 * a + hv c) (j + 1) (fun x hx => h x (List.mem_cons_of_mem _ hx)) (by omega) (by rw [Int.pow_succ]; omega) (by simp at hl; omega)
    rw [numX, hexC_yes (h c (by simp))]
    show numX r (a * 16 % 18446744073709551616 + hv c) = _
    rw [e, ih]
    rfl
theorem numX_no : ∀ (l : List Int) (a : Int), ¬ (∀ x ∈ l, isX x = true) → numX l a = none
  | [], a, h => absurd (fun x hx => by cases hx) h
  | c :: r, a, h => by
    rw [numX]
    by_cases hc : isX c = true
    · rw [hexC_yes hc]
      refine numX_no r _ (fun h2 => h (fun x hx => ?_))
      rcases List.mem_cons.1 hx with rfl | hx
      · exact hc
      · exact h2 x hx
    · rw [hexC_no hc]
def AllX (l : List Int) : Prop := ∀ x ∈ l, isX x = true
instance (l : List Int) : Decidable (AllX l) := inferInstanceAs (Decidable (∀ x ∈ l, isX x = true))
def nameS (v : ByteArray) : Int × Bool := if v.size = 16 ∧ AllX (bytesOf v) then (vx 0 (bytesOf v), true) else (0, false)
theorem name_tells (v : ByteArray) : name_Number.f v = some (nameS v) := by
 unfold name_Number.f nameS
 by_cases h : v.size = 16
 ·rw [if_pos h]
  by_cases g : AllX (bytesOf v)
  ·rw [if_pos ⟨h, g⟩, numX_yes (bytesOf v) 0 0 g (by omega) (by decide) (by rw [bytesOf_length]; omega)]
  ·rw [if_neg (fun e => g e.2), numX_no (bytesOf v) 0 g]
 ·rw [if_neg h, if_neg (fun e => h e.1)]
theorem nameS_yes {n : Int} (h : U64 n) : nameS (strOfNums (hexL n)) = (n, true) := by
 unfold nameS
 have hb : bytesOf (strOfNums (hexL n)) = hexL n := bytes_str (isX_byte (hexL_isX n))
 rw [hb, if_pos ⟨by rw [size_str, hexL_len], hexL_isX n⟩, vx_hexL n h.1 h.2]
theorem nameS_back {v : ByteArray} {n : Int} (h : nameS v = (n, true)) : U64 n ∧ bytesOf v = hexL n := by
 unfold nameS at h
 by_cases g : v.size = 16 ∧ AllX (bytesOf v)
 ·rw [if_pos g] at h
  injection h with h _
  obtain ⟨h1, h2, h3⟩ := hexL_vx (bytesOf v) (by rw [bytesOf_length]; exact g.1) g.2
  rw [← h]
  exact ⟨⟨h2, h3⟩, h1.symm⟩
 ·rw [if_neg g] at h
  cases h
theorem vx_zeros (m : Nat) (l : List Int) : vx 0 (List.replicate m 48 ++ l) = vx 0 l := by
  induction m with
  | zero => rfl
  | succ m ih =>
    rw [List.replicate_succ, List.cons_append, vx_zero, ih]
def cnumS (v : ByteArray) : Int × Bool := if v.size ≤ 16 ∧ AllX (bytesOf v) then (vx 0 (bytesOf v), (strOfNums (hexS (vx 0 (bytesOf v)))).toList == v.toList) else (0, false)
theorem vx_in (l : List Int) (hl : l.length ≤ 16) (h : AllX l) : U64 (vx 0 l) := by
 have hx : AllX (List.replicate (16 - l.length) 48 ++ l) := by
  intro x hx
  rcases List.mem_append.1 hx with hx | hx
  ·rw [List.eq_of_mem_replicate hx]
   rfl
  ·exact h x hx
 obtain ⟨_, h2, h3⟩ := hexL_vx (List.replicate (16 - l.length) 48 ++ l) (by rw [List.length_append, List.length_replicate]; omega) hx
 rw [vx_zeros] at h2 h3
 exact ⟨h2, h3⟩
theorem cnum_tells (v : ByteArray) : Ev (fun k => cursor_number.f k v) (cnumS v) := by
 unfold cnumS
 by_cases hs : v.size > 16
 ·rw [if_neg (by omega)]
  exact Ev.pos hs (Ev.now _)
 refine Ev.neg hs ?_
 have hr : strings_Repeat.f (⟨#[48]⟩ : ByteArray) (16 - (v.size : Int)) = some (strOfNums (List.replicate (16 - v.size) 48)) := by
  unfold strings_Repeat.f
  rw [if_pos ⟨rfl, by omega, by omega⟩, show (16 - (v.size : Int)).toNat = 16 - v.size by omega]
 refine Ev.bindc hr (Ev.pos (by rw [size_str, List.length_replicate]; omega) ?_)
 have hz : Bytes (List.replicate (16 - v.size) 48) := by
  intro x hx
  rw [List.eq_of_mem_replicate hx]
  omega
 have hb : bytesOf (strOfNums (List.replicate (16 - v.size) 48) ++ v) = List.replicate (16 - v.size) 48 ++ bytesOf v := by
  rw [bytesOf_append, bytes_str hz]
 have hsz : (strOfNums (List.replicate (16 - v.size) 48) ++ v).size = 16 := by
  rw [← bytesOf_length, hb, List.length_append, List.length_replicate, bytesOf_length]
  omega
 refine Ev.bindc (name_tells _) ?_
 unfold nameS
 rw [hb]
 by_cases g : AllX (bytesOf v)
 ·have g2 : AllX (List.replicate (16 - v.size) 48 ++ bytesOf v) := by
   intro x hx
   rcases List.mem_append.1 hx with hx | hx
   ·rw [List.eq_of_mem_replicate hx]
    rfl
   ·exact g x hx
  rw [if_pos ⟨hsz, g2⟩, if_pos ⟨by omega, g⟩, vx_zeros]
  exact Ev.pos rfl (Ev.bind (hexs_tells _ (vx_in _ (by rw [bytesOf_length]; omega) g)) (Ev.now _))
 ·rw [if_neg (fun e => g (fun x hx => e.2 x (List.mem_append_right _ hx))), if_neg (fun e => g e.2)]
  exact Ev.neg (by simp) (Ev.now _)
theorem cnumS_yes {n : Int} (h : U64 n) : cnumS (strOfNums (hexS n)) = (n, true) := by
 unfold cnumS
 have hb : bytesOf (strOfNums (hexS n)) = hexS n := bytes_str (isX_byte (hexS_isX n))
 rw [hb, if_pos ⟨by rw [size_str]; exact hexS_len n, hexS_isX n⟩, vx_hexS n h.1 h.2]
 simp
theorem cnumS_back {v : ByteArray} {n : Int} (h : cnumS v = (n, true)) : U64 n ∧ bytesOf v = hexS n := by
 unfold cnumS at h
 by_cases g : v.size ≤ 16 ∧ AllX (bytesOf v)
 ·rw [if_pos g] at h
  injection h with h1 h2
  have hu := vx_in (bytesOf v) (by rw [bytesOf_length]; exact g.1) g.2
  rw [h1] at h2 hu
  have e := toList_iff.1 (beq_iff_eq.1 h2)
  rw [bytes_str (isX_byte (hexS_isX n))] at e
  exact ⟨hu, e.symm⟩
 ·rw [if_neg g] at h
  cases h
/-! ### the parts of a cursor's text -/
def digs (q : Nat) (n : Int) : List Int := if q = 0 ∨ q = 2 then hexL n else hexS n
def readQ (q : Nat) (v : ByteArray) : Int × Bool := if q = 0 ∨ q = 2 then nameS v else cnumS v
theorem digs_inj {q : Nat} {n m : Int} (hn : U64 n) (hm : U64 m) (h : digs q n = digs q m) : n = m := by
 unfold digs at h
 split at h
 ·exact hexL_inj hn hm h
 ·exact hexS_inj hn hm h
theorem readQ_tells (q : Nat) (v : ByteArray) : Ev (fun k => curRead k q v) (readQ q v) := by
 unfold readQ
 by_cases h : q = 0 ∨ q = 2
 ·rw [if_pos h]
  exact Ev.congr (fun k => by unfold curRead; rw [if_pos h]) (Ev.fix (name_tells v))
 ·rw [if_neg h]
  exact Ev.congr (f := fun k => cursor_number.f k v) (fun k => by unfold curRead; rw [if_neg h]) (cnum_tells v)
theorem readQ_yes (q : Nat) {n : Int} (h : U64 n) : readQ q (strOfNums (digs q n)) = (n, true) := by
 unfold readQ digs
 by_cases g : q = 0 ∨ q = 2
 ·rw [if_pos g, if_pos g]
  exact nameS_yes h
 ·rw [if_neg g, if_neg g]
  exact cnumS_yes h
theorem readQ_back {q : Nat} {v : ByteArray} {n : Int} (h : readQ q v = (n, true)) : U64 n ∧ bytesOf v = digs q n := by
 unfold readQ at h
 unfold digs
 by_cases g : q = 0 ∨ q = 2
 ·rw [if_pos g] at h ⊢
  exact nameS_back h
 ·rw [if_neg g] at h ⊢
  exact cnumS_back h
def keyAt (q : Nat) : Int := [115, 105, 98, 109, 116, 120].getD q 0
theorem key_ext : ∀ q : Fin 6, (curKeys.extract q.val (q.val + 1)).data = (strOfNums [keyAt q.val]).data := by decide +kernel
theorem key_str (q : Nat) (h : q < 6) : curKeys.extract q (q + 1) = strOfNums [keyAt q] := congrArg ByteArray.mk (key_ext ⟨q, h⟩)
theorem key_in : ∀ q : Fin 6, 0 ≤ keyAt q.val ∧ keyAt q.val ≤ 255 ∧ keyAt q.val ≠ 61 := by decide
def okP : Nat → List ByteArray → List Int → Prop
  | _, [], [] => True
  | q, p :: ps, n :: ns => U64 n ∧ bytesOf p = pieceK (keyAt q) (digs q n) ∧ okP (q + 1) ps ns
  | _, _, _ => False
theorem curGo_tells : ∀ (ps : List ByteArray) (q : Nat), q + ps.length ≤ 6 → (∀ p ∈ ps, p.size ≤ 10000000) → ∃ o, Ev (fun k => curGo k q ps) o ∧ (∀ l, o = some l → okP q ps l) ∧ (∀ l, okP q ps l → o = some l)
  | [], q, _, _ => ⟨some [], Ev.congr (fun k => curGo.eq_1 k q) (Ev.now _), fun l h => by injection h with h; subst h; trivial, fun l h => by
      match l, h with
      | [], _ => rfl⟩
  | p :: ps, q, hl, hs => by
    have hq : q < 6 := by simp at hl; omega
    obtain ⟨k0, k1, k2⟩ := key_in ⟨q, hq⟩
    simp only at k0 k1 k2
    have hps := hs p (by simp)
    have hstop : ∀ c1 c2 c3, strings_Cut.f p (⟨#[61]⟩ : ByteArray) = some (c1, c2, c3) → ¬ (c3 = true ∧ c1.toList = (curKeys.extract q (q + 1)).toList) → Ev (fun k => curGo k q (p :: ps)) none := fun c1 c2 c3 h1 h2 => ⟨0, fun k _ => curGo_stop k p ps q c1 c2 c3 h1 h2⟩
    by_cases hc : (bytesOf p).count (((61 : UInt8).toNat : Nat) : Int) = 0
    · refine ⟨none, hstop _ _ _ (cut_no 61 p hc) (fun h => by cases h.1), fun l h => (by cases h), fun l h => ?_⟩
      match l, h with
      | n :: ns, h =>
        have h2 := h.2.1
        rw [h2] at hc
        exact absurd (List.count_eq_zero.1 hc) (by simp [pieceK])
    obtain ⟨a, b, h1, h2, h3⟩ := cut_yes 61 p hps hc
    have hbp := bytesOf_bytes p
    rw [h2] at hbp
    have ha : Bytes a := fun x hx => hbp x (List.mem_append_left _ hx)
    have hb : Bytes b := fun x hx => hbp x (List.mem_append_right _ (List.mem_cons_of_mem _ hx))
    have hkey : (strOfNums a).toList = (curKeys.extract q (q + 1)).toList ↔ a = [keyAt q] := by
      rw [key_str q hq, toList_iff, bytes_str ha, bytes_str (fun x hx => by rw [List.mem_singleton.1 hx]; exact ⟨k0, k1⟩)]
    have hsplit : ∀ n, bytesOf p = pieceK (keyAt q) (digs q n) → a = [keyAt q] ∧ b = digs q n := by
      intro n hn
      rw [h2] at hn
      have hn' : a ++ 61 :: b = [keyAt q] ++ 61 :: digs q n := hn
      exact app_inj h3 (by simp; omega) hn'
    by_cases hk : a = [keyAt q]
    case neg =>
      refine ⟨none, hstop _ _ _ h1 (fun h => hk (hkey.1 h.2)), fun l h => (by cases h), fun l h => ?_⟩
      match l, h with
      | n :: ns, h => exact absurd (hsplit n h.2.1).1 hk
    have hke := hkey.2 hk
    have hrd := readQ_tells q (strOfNums b)
    obtain ⟨⟨n, bb⟩, hn⟩ : ∃ r, readQ q (strOfNums b) = r := ⟨_, rfl⟩
    rw [hn] at hrd
    cases bb
    · refine ⟨none, ?_, fun l h => (by cases h), fun l h => ?_⟩
      · obtain ⟨K, hK⟩ := hrd
        exact ⟨K, fun k hk2 => curGo_bad k p ps q _ _ n h1 hke (hK k hk2)⟩
      · match l, h with
        | m :: ns, h =>
          have hb2 := (hsplit m h.2.1).2
          have := readQ_yes q h.1
          rw [← hb2, hn] at this
          injection this with _ this
          cases this
    · obtain ⟨o, i1, i2, i3⟩ := curGo_tells ps (q + 1) (by simp at hl; omega) (fun x hx => hs x (List.mem_cons_of_mem _ hx))
      obtain ⟨n1, n2⟩ := readQ_back hn
      rw [bytes_str hb] at n2
      refine ⟨o.map (n :: ·), ?_, fun l h => ?_, fun l h => ?_⟩
      · obtain ⟨K1, hK1⟩ := hrd
        obtain ⟨K2, hK2⟩ := i1
        refine ⟨max K1 K2, fun k hk2 => ?_⟩
        have := curGo_next k p ps q [] (strOfNums a) (strOfNums b) n h1 hke (hK1 k (by omega))
        have hk3 : curGo k (q + 1) ps = some o := hK2 k (by omega)
        rw [hk3] at this
        show curGo k q (p :: ps) = some (o.map (n :: ·))
        cases hcg : curGo k q (p :: ps) with
        | none => rw [hcg] at this; cases this
        | some o2 =>
          rw [hcg] at this
          injection this with this
          rw [show (fun x : List Int => ([] : List Int) ++ x) = id from rfl, Option.map_id] at this
          have this2 : o2 = o.map (n :: ·) := this
          rw [this2]
      · cases o with
        | none => cases h
        | some l2 =>
          injection h with h
          subst h
          exact ⟨n1, by rw [h2, hk, n2]; rfl, i2 l2 rfl⟩
      · match l, h with
        | m :: ns, h =>
          have hb2 := (hsplit m h.2.1).2
          have e : n = m := digs_inj n1 h.1 (by rw [← n2, hb2])
          subst e
          rw [i3 ns h.2.2]
          rfl
theorem joinC_text (a b c d e f : Int) : joinC 59 [pieceK 115 (hexL a), pieceK 105 (hexS b), pieceK 98 (hexL c), pieceK 109 (hexS d), pieceK 116 (hexS e), pieceK 120 (hexS f)] = textL a b c d e f := rfl
theorem cutC_text (a b c d e f : Int) : cutC 59 (textL a b c d e f) = [pieceK 115 (hexL a), pieceK 105 (hexS b), pieceK 98 (hexL c), pieceK 109 (hexS d), pieceK 116 (hexS e), pieceK 120 (hexS f)] := by
 unfold textL
 rw [cutC_app 59 _ _ (no59 (by decide) (hexL_isX _)), cutC_app 59 _ _ (no59 (by decide) (hexS_isX _)), cutC_app 59 _ _ (no59 (by decide) (hexL_isX _)), cutC_app 59 _ _ (no59 (by decide) (hexS_isX _)), cutC_app 59 _ _ (no59 (by decide) (hexS_isX _)), cutC_plain 59 _ (no59 (by decide) (hexS_isX _))]
theorem parts_small (s : ByteArray) (hs : s.size ≤ 10000000) : ∀ p ∈ (cutC 59 (bytesOf s)).map strOfNums, p.size ≤ 10000000 := by
 intro p hp
 obtain ⟨x, hx, rfl⟩ := List.mem_map.1 hp
 have := (cutC_pieces 59 (bytesOf s) x hx).1
 rw [bytesOf_length] at this
 rw [size_str]
 omega
theorem parts_bytes (s : ByteArray) : ((cutC 59 (bytesOf s)).map strOfNums).map bytesOf = cutC 59 (bytesOf s) := by
 rw [List.map_map]
 conv => rhs; rw [← List.map_id (cutC 59 (bytesOf s))]
 exact List.map_congr_left fun p hp => bytes_str ((cutC_pieces 59 (bytesOf s) p hp).2 (bytesOf_bytes s))
def Text6 (s : ByteArray) (a b c d e f : Int) : Prop := U64 a ∧ U64 b ∧ U64 c ∧ U64 d ∧ U64 e ∧ U64 f ∧ bytesOf s = textL a b c d e f
theorem okP_text (s : ByteArray) (a b c d e f : Int) : okP 0 ((cutC 59 (bytesOf s)).map strOfNums) [a, b, c, d, e, f] ↔ Text6 s a b c d e f := by
 constructor
 ·intro h
  have hb := parts_bytes s
  have hj := join_cutC 59 (bytesOf s)
  generalize (cutC 59 (bytesOf s)).map strOfNums = ps at h hb
  match ps, h with
  | [p1, p2, p3, p4, p5, p6], ⟨u1, e1, u2, e2, u3, e3, u4, e4, u5, e5, u6, e6, _⟩ =>
   refine ⟨u1, u2, u3, u4, u5, u6, ?_⟩
   rw [← hj, ← hb, ← joinC_text]
   simp only [List.map_cons, List.map_nil]
   rw [e1, e2, e3, e4, e5, e6]
   rfl
 ·rintro ⟨u1, u2, u3, u4, u5, u6, h⟩
  rw [h, cutC_text]
  have hb : ∀ key l, 0 ≤ key ∧ key ≤ 255 → AllX l → bytesOf (strOfNums (pieceK key l)) = pieceK key l := fun key l hk hx => bytes_str (pieceK_bytes hk hx)
  exact ⟨u1, hb 115 _ (by decide) (hexL_isX a), u2, hb 105 _ (by decide) (hexS_isX b), u3, hb 98 _ (by decide) (hexL_isX c), u4, hb 109 _ (by decide) (hexS_isX d), u5, hb 116 _ (by decide) (hexS_isX e), u6, hb 120 _ (by decide) (hexS_isX f), trivial⟩
theorem okP_len : ∀ {q : Nat} {ps : List ByteArray} {l : List Int}, okP q ps l → ps.length = l.length
  | _, [], [], _ => rfl
  | q, p :: ps, n :: ns, h => by
    rw [List.length_cons, List.length_cons, okP_len h.2.2]
theorem parse_yes (s : ByteArray) (hs : s.size ≤ 10000000) (a b c d e f : Int) (h : Text6 s a b c d e f) : Ev (fun k => cursor_Parse.f k s) (a, b, c, d, e, f, 0) := by
 have hsp := split_tells 59 s hs
 have hok := (okP_text s a b c d e f).2 h
 have hl := okP_len hok
 obtain ⟨o, h1, _, h3⟩ := curGo_tells _ 0 (by rw [hl]; simp) (parts_small s hs)
 rw [h3 _ hok] at h1
 exact Ev.bind hsp (Ev.pos hl (Ev.bind h1 (Ev.now _)))
theorem parse_no (s : ByteArray) (hs : s.size ≤ 10000000) (h : ∀ a b c d e f, ¬ Text6 s a b c d e f) : Ev (fun k => cursor_Parse.f k s) (0, 0, 0, 0, 0, 0, 28) := by
  have hsp := split_tells 59 s hs
  by_cases hl : ((cutC 59 (bytesOf s)).map strOfNums).length = 6
  case neg => exact Ev.bind hsp (Ev.neg hl (Ev.now _))
  obtain ⟨o, h1, h2, _⟩ := curGo_tells _ 0 (by rw [hl]; omega) (parts_small s hs)
  refine Ev.bind hsp (Ev.pos hl (Ev.bind h1 ?_))
  cases o with
  | none => exact Ev.now _
  | some l =>
    have hok := h2 l rfl
    have hl2 := okP_len hok
    rw [hl] at hl2
    match l, hl2, hok with
    | [a, b, c, d, e, f], _, hok => exact absurd ((okP_text s a b c d e f).1 hok) (h a b c d e f)
/-! ### the reference's texts -/
theorem refhex_go : ∀ (d i : Nat) (m : Int) (A : List Int), d + i = 16 → A.length = i → 0 ≤ m → m ≤ 18446744073709551615 →
    Ev (fun k => logbookref22_Hex.l0 k m (strOfNums A) i) (strOfNums (hexF d m ++ A))
  | 0, i, m, A, hd, hA, h0, h1 => Ev.step (fun k => logbookref22_Hex.l0.eq_2 _ _ _ _) (Ev.neg (by omega) (Ev.now _))
  | d + 1, i, m, A, hd, hA, h0, h1 => by
    have e1 : Int.tmod m 16 % 256 = m % 16 := by
      rw [Int.tmod_eq_emod_of_nonneg h0]
      omega
    have e2 : IntKind.u64.wrap (Int.tdiv m 16) = m / 16 := by
      rw [Int.tdiv_eq_ediv_of_nonneg h0, wu64 (by omega) (by omega)]
    have ih := refhex_go d (i + 1) (m / 16) (digX (m % 16) :: A) (by omega) (by simp [hA]) (by omega) (by omega)
    have e3 : hexF d (m / 16) ++ digX (m % 16) :: A = hexF (d + 1) m ++ A := by
      rw [hexF, List.append_assoc]
      rfl
    rw [e3] at ih
    have hw := wn (i := i) (n := 16) (by omega) (by omega)
    refine Ev.step (fun k => logbookref22_Hex.l0.eq_2 _ _ _ _) (Ev.pos (by omega) ?_)
    rw [e1, e2, hw]
    refine Ev.both (fun h => Ev.bindc rfl (Ev.pos ?_ ?_)) (fun h => Ev.bindc rfl (Ev.pos ?_ ?_))
    · rw [size_str, size_str]
      simp
      omega
    · rw [str_append]
      have e4 : [(97 + ((m % 16 - 10) % 256)) % 256] ++ A = digX (m % 16) :: A := by
        unfold digX
        rw [if_neg (by omega), show (97 + ((m % 16 - 10) % 256)) % 256 = 87 + m % 16 by omega]
        rfl
      rw [e4]
      exact ih
    · rw [size_str, size_str]
      simp
      omega
    · rw [str_append]
      have e4 : [(48 + m % 16) % 256] ++ A = digX (m % 16) :: A := by
        unfold digX
        rw [if_pos (by omega), show (48 + m % 16) % 256 = 48 + m % 16 by omega]
        rfl
      rw [e4]
      exact ih
theorem refhex_tells (n : Int) (h : U64 n) : Ev (fun k => logbookref22_Hex.f k n) (strOfNums (hexL n)) := by
 have := refhex_go 16 0 n [] (by omega) rfl h.1 h.2
 rw [List.append_nil, ← hexL_F] at this
 exact this
def trim1 : List Int → List Int
  | [] => []
  | [c] => [c]
  | c :: d :: r => if c = 48 then trim1 (d :: r) else c :: d :: r
theorem trim1_eq : ∀ l : List Int, l ≠ [] → trim1 l = if trim0 l = [] then [48] else trim0 l
  | [], h => absurd rfl h
  | [c], _ => by
    unfold trim0
    by_cases h : c = 48
    · subst h
      rfl
    · rw [List.dropWhile_cons_of_neg (by simpa using h), if_neg (by simp)]
      rfl
  | c :: d :: r, _ => by
    have ih := trim1_eq (d :: r) (by simp)
    rw [trim1]
    by_cases h : c = 48
    · subst h
      have e : trim0 (48 :: d :: r) = trim0 (d :: r) := by
        unfold trim0
        rw [List.dropWhile_cons_of_pos (by simp)]
      rw [if_pos rfl, ih, e]
    · have e : trim0 (c :: d :: r) = c :: d :: r := by
        unfold trim0
        rw [List.dropWhile_cons_of_neg (by simpa using h)]
      rw [if_neg h, e, if_neg (by simp)]
theorem refs_go : ∀ (n : Nat) (l : List Int), l.length = n → Bytes l → n ≤ 100 → Ev (fun k => logbookref29_Hex.l0 k (strOfNums l)) (strOfNums (trim1 l))
  | 0, l, hl, hb, hn => by
    obtain rfl := List.eq_nil_of_length_eq_zero hl
    exact Ev.step (fun k => logbookref29_Hex.l0.eq_2 _ _) (Ev.neg (by rw [size_str]; simp) (Ev.now _))
  | 1, [c], hl, hb, hn => Ev.step (fun k => logbookref29_Hex.l0.eq_2 _ _) (Ev.neg (by rw [size_str]; simp) (Ev.now _))
  | n + 2, c :: d :: r, hl, hb, hn => by
    have hs : (strOfNums (c :: d :: r)).size = n + 2 := by rw [size_str]; exact hl
    have h0 : bt (strOfNums (c :: d :: r)) 0 = c := by
      have := bt_get (strOfNums (c :: d :: r)) 0
      rw [bytes_str hb] at this
      exact this
    have hb2 : Bytes (d :: r) := fun x hx => hb x (List.mem_cons_of_mem _ hx)
    have he : (strOfNums (c :: d :: r)).extract 1 (strOfNums (c :: d :: r)).size = strOfNums (d :: r) := by
      apply bytesOf_inj
      rw [bytesOf_extract, bytes_str hb, bytes_str hb2, List.take_of_length_le (by rw [hs]; omega)]
      rfl
    refine Ev.step (fun k => logbookref29_Hex.l0.eq_2 _ _) (Ev.pos (by omega) (Ev.pos (by omega) ?_))
    rw [h0, he, trim1]
    refine Ev.both (fun h => Ev.pos (by omega) ?_) (fun h => ?_)
    · rw [if_pos h]
      exact refs_go (n + 1) (d :: r) (by simpa using hl) hb2 (by omega)
    · rw [if_neg h]
      exact Ev.now _
theorem refs_tells (n : Int) (h : U64 n) : Ev (fun k => logbookref29_Hex.f k n) (strOfNums (hexS n)) := by
  have h1 := refs_go 16 (hexL n) (hexL_len n) (isX_byte (hexL_isX n)) (by decide)
  have hne : hexL n ≠ [] := fun e => by
    have := hexL_len n
    rw [e] at this
    simp at this
  rw [trim1_eq _ hne] at h1
  exact Ev.bind (refhex_tells n h) h1
theorem lit2 (x y : UInt8) : (⟨#[x, y]⟩ : ByteArray) = strOfNums [(x.toNat : Int), (y.toNat : Int)] := by
 show ByteArray.mk #[x, y] = ByteArray.mk #[UInt8.ofNat ((x.toNat : Int)).toNat, UInt8.ofNat ((y.toNat : Int)).toNat]
 rw [ofNat_nat, ofNat_nat]
theorem lit3 (x y z : UInt8) : (⟨#[x, y, z]⟩ : ByteArray) = strOfNums [(x.toNat : Int), (y.toNat : Int), (z.toNat : Int)] := by
 show ByteArray.mk #[x, y, z] = ByteArray.mk #[UInt8.ofNat ((x.toNat : Int)).toNat, UInt8.ofNat ((y.toNat : Int)).toNat, UInt8.ofNat ((z.toNat : Int)).toNat]
 rw [ofNat_nat, ofNat_nat, ofNat_nat]
theorem reftext_tells (a b c d e f : Int) (ha : U64 a) (hb : U64 b) (hc : U64 c) (hd : U64 d) (he : U64 e) (hf : U64 f) : Ev (fun k => logbookref29_Text.f k a b c d e f) (strOfNums (textL a b c d e f)) := by
  have l1 := hexL_len a
  have l2 := hexS_len b
  have l3 := hexL_len c
  have l4 := hexS_len d
  have l5 := hexS_len e
  have l6 := hexS_len f
  refine Ev.bind (refhex_tells a ha) (Ev.pos ?_ (Ev.pos ?_ (Ev.bind (refs_tells b hb) (Ev.pos ?_ (Ev.pos ?_ (Ev.bind (refhex_tells c hc) (Ev.pos ?_ (Ev.pos ?_ (Ev.bind (refs_tells d hd) (Ev.pos ?_ (Ev.pos ?_ (Ev.bind (refs_tells e he) (Ev.pos ?_ (Ev.pos ?_ (Ev.bind (refs_tells f hf) (Ev.pos ?_ (Ev.eq (Ev.now _) ?_)))))))))))))))))
  all_goals first
    | (simp only [size_str]; omega)
    | skip
  rw [lit2 115 61, lit3 59 105 61, lit3 59 98 61, lit3 59 109 61, lit3 59 116 61, lit3 59 120 61]
  simp only [str_append]
  congr 1
  unfold textL pieceK
  simp
/-! ### the reference's reading of a cursor -/
def digS : Nat → List Int → Int → Int × Nat
  | 0, _, n => (n, 0)
  | d + 1, [], n => (n, 0)
  | d + 1, c :: r, n => if isX c = true then ((digS d r (16 * n + hv c)).1, (digS d r (16 * n + hv c)).2 + 1) else (n, 0)
theorem digS_in : ∀ (d : Nat) (l : List Int) (n : Int), d ≤ 16 → 0 ≤ n → n < 16 ^ (16 - d) → U64 (digS d l n).1 ∧ (digS d l n).2 ≤ d
  | 0, l, n, hd, h0, h1 => by
    rw [show 16 - 0 = 16 from rfl, p16] at h1
    exact ⟨⟨h0, by show n ≤ _; omega⟩, Nat.le_refl _⟩
  | d + 1, l, n, hd, h0, h1 => by
    have hp := p16le (j := 16 - (d + 1)) (by omega)
    rw [p15] at hp
    have hu : U64 n := ⟨h0, by omega⟩
    match l with
    | [] => exact ⟨hu, by show 0 ≤ _; omega⟩
    | c :: r =>
      rw [digS]
      by_cases hc : isX c = true
      · have hv2 := hv_in hc
        have e : 16 - d = (16 - (d + 1)) + 1 := by omega
        obtain ⟨i1, i2⟩ := digS_in d r (16 * n + hv c) (by omega) (by omega) (by rw [e, Int.pow_succ]; omega)
        rw [if_pos hc]
        exact ⟨i1, by show _ + 1 ≤ d + 1; omega⟩
      · rw [if_neg hc]
        exact ⟨hu, by show 0 ≤ _; omega⟩
theorem wn6 {i : Nat} (hn : i ≤ 100000000) : wrap64 ((i : Int) + 1) = ((i + 1 : Nat) : Int) := wn (n := i) (Nat.le_refl _) hn
theorem digits_go (s : ByteArray) (hs : s.size ≤ 10000000) : ∀ (d i at_ : Nat) (n : Int), d + i = 16 → at_ ≤ 10000000 + i → 0 ≤ n → n < 16 ^ i →
  Ev (fun k => logbookref29_digits.l0 k s at_ n i) ((digS d ((bytesOf s).drop at_) n).1, ((at_ + (digS d ((bytesOf s).drop at_) n).2 : Nat) : Int))
 | 0, i, at_, n, hd, ha, h0, h1 => by
  refine Ev.step (fun k => logbookref29_digits.l0.eq_2 _ _ _ _ _) (Ev.neg (by omega) (Ev.step (fun k => logbookref29_digits.j1.eq_2 _ _ _ _ _ _) (Ev.neg (by simp) (Ev.eq (Ev.now _) ?_))))
  rfl
 | d + 1, i, at_, n, hd, ha, h0, h1 => by
  have hl : (bytesOf s).length = s.size := bytesOf_length s
  refine Ev.step (fun k => logbookref29_digits.l0.eq_2 _ _ _ _ _) (Ev.pos (by omega) (Ev.step (fun k => logbookref29_digits.j1.eq_2 _ _ _ _ _ _) ?_))
  by_cases hlt : at_ < s.size
  ·have hdr := bt_drop s at_ hlt
   have hr := bt_range s at_
   have hp := p16le (j := i) (by omega)
   rw [p15] at hp
   have hin : n < 1152921504606846976 := by omega
   refine Ev.pos (decide_eq_true (by omega)) (Ev.pos (by omega) (Ev.pos (by omega) ?_))
   rw [hdr]
   generalize bt s (at_ : Int) = c at hr
   have ih := fun (hx : isX c = true) => digits_go s hs d (i + 1) (at_ + 1) (16 * n + hv c) (by omega) (by omega) (by have := hv_in hx; omega) (by have := hv_in hx; rw [Int.pow_succ]; omega)
   have fin : isX c = true → ((digS d ((bytesOf s).drop (at_ + 1)) (16 * n + hv c)).1, ((at_ + 1 + (digS d ((bytesOf s).drop (at_ + 1)) (16 * n + hv c)).2 : Nat) : Int)) = ((digS (d + 1) (c :: (bytesOf s).drop (at_ + 1)) n).1, ((at_ + (digS (d + 1) (c :: (bytesOf s).drop (at_ + 1)) n).2 : Nat) : Int)) := by
    intro hx
    rw [digS, if_pos hx]
    congr 1
    show ((at_ + 1 + _ : Nat) : Int) = ((at_ + (_ + 1) : Nat) : Int)
    omega
   have bad : ¬ isX c = true → ((n, (at_ : Int)) : Int × Int) = ((digS (d + 1) (c :: (bytesOf s).drop (at_ + 1)) n).1, ((at_ + (digS (d + 1) (c :: (bytesOf s).drop (at_ + 1)) n).2 : Nat) : Int)) := by
    intro hx
    rw [digS, if_neg hx]
    rfl
   have w1 := wn6 (i := at_) (by omega)
   have w2 := wn6 (i := i) (by omega)
   have wm16 : IntKind.u64.wrap (n * 16) = 16 * n := by
    rw [wu64 (by omega) (by omega)]
    omega
   have j2no : ¬ isX c = true → c < 48 ∨ 57 < c → Ev (fun k => logbookref29_digits.j2 k s at_ n i c false) ((digS (d + 1) (c :: (bytesOf s).drop (at_ + 1)) n).1, ((at_ + (digS (d + 1) (c :: (bytesOf s).drop (at_ + 1)) n).2 : Nat) : Int)) := by
    intro hx h48
    rw [isX_iff] at hx
    refine Ev.step (fun k => logbookref29_digits.j2.eq_2 _ _ _ _ _ _ _) (Ev.neg (by simp) ?_)
    refine Ev.both (fun h97 => Ev.neg (by omega) (Ev.eq (Ev.now _) (bad (by rw [isX_iff]; exact hx)))) (fun h97 => Ev.eq (Ev.now _) (bad (by rw [isX_iff]; exact hx)))
   have j2let : 97 ≤ c → c ≤ 102 → Ev (fun k => logbookref29_digits.j2 k s at_ n i c false) ((digS (d + 1) (c :: (bytesOf s).drop (at_ + 1)) n).1, ((at_ + (digS (d + 1) (c :: (bytesOf s).drop (at_ + 1)) n).2 : Nat) : Int)) := by
    intro h97 h102
    have hx : isX c = true := isX_iff.2 (.inr ⟨h97, h102⟩)
    refine Ev.step (fun k => logbookref29_digits.j2.eq_2 _ _ _ _ _ _ _) (Ev.neg (by simp) (Ev.pos (by omega) (Ev.pos (by omega) ?_)))
    have e : IntKind.u64.wrap (IntKind.u64.wrap (IntKind.u64.wrap (n * 16) + (c - 97) % 256) + 10) = 16 * n + hv c := by
     rw [wm16, show (c - 97) % 256 = c - 97 by omega, wu64 (x := 16 * n + (c - 97)) (by omega) (by omega), wu64 (by omega) (by omega)]
     unfold hv
     rw [if_neg (by omega)]
     omega
    rw [e, w1, w2]
    exact Ev.eq (ih hx) (fin hx)
   refine Ev.both (fun h48 => ?_) (fun h48 => ?_)
   ·by_cases h57 : c ≤ 57
    ·have hx : isX c = true := isX_iff.2 (.inl ⟨h48, h57⟩)
     rw [show decide (c ≤ 57) = true from decide_eq_true h57]
     refine Ev.step (fun k => logbookref29_digits.j2.eq_2 _ _ _ _ _ _ _) (Ev.pos rfl ?_)
     have e : IntKind.u64.wrap (IntKind.u64.wrap (n * 16) + (c - 48) % 256) = 16 * n + hv c := by
      rw [wm16, show (c - 48) % 256 = c - 48 by omega, wu64 (by omega) (by omega)]
      unfold hv
      rw [if_pos h57]
     rw [e, w1, w2]
     exact Ev.eq (ih hx) (fin hx)
    ·rw [show decide (c ≤ 57) = false from decide_eq_false h57]
     by_cases hx : isX c = true
     ·have := isX_iff.1 hx
      exact j2let (by omega) (by omega)
     ·exact j2no hx (.inr (by omega))
   ·by_cases hx : isX c = true
    ·have := isX_iff.1 hx
     exact absurd h48 (by omega)
    ·exact j2no hx (.inl (by omega))
  ·refine Ev.neg (by rw [decide_eq_true_eq]; omega) (Ev.eq (Ev.now _) ?_)
   rw [List.drop_of_length_le (by omega)]
   rfl
theorem digits_tells (s : ByteArray) (hs : s.size ≤ 10000000) (at_ : Nat) (ha : at_ ≤ 10000000) :
  Ev (fun k => logbookref29_digits.f k s at_) ((digS 16 ((bytesOf s).drop at_) 0).1, ((at_ + (digS 16 ((bytesOf s).drop at_) 0).2 : Nat) : Int)) := digits_go s hs 16 0 at_ 0 (by omega) (by omega) (by omega) (by decide)
theorem refcur_step (s : ByteArray) (hs : s.size ≤ 10000000) (d at_ : Nat) (ha : at_ ≤ 1000000) (q : List Int) (h : Ev (fun k => refCur k s d ((at_ + (digS 16 ((bytesOf s).drop at_) 0).2 + 3 : Nat) : Int)) q) : Ev (fun k => refCur k s (d + 1) (at_ : Int)) ((digS 16 ((bytesOf s).drop at_) 0).1 :: q) := by
 obtain ⟨_, h2⟩ := digS_in 16 ((bytesOf s).drop at_) 0 (Nat.le_refl _) (by omega) (by decide)
 refine Ev.congr (fun k => refCur.eq_2 k s (at_ : Int) d) (Ev.bind (digits_tells s hs at_ (by omega)) (Ev.pos ⟨by omega, by omega⟩ (Ev.bind (a := q) ?_ (Ev.now _))))
 rw [show ((at_ + (digS 16 ((bytesOf s).drop at_) 0).2 : Nat) : Int) + 3 = ((at_ + (digS 16 ((bytesOf s).drop at_) 0).2 + 3 : Nat) : Int) by omega]
 exact h
theorem refcur_any (s : ByteArray) (hs : s.size ≤ 10000000) : ∀ (d at_ : Nat), at_ + 19 * d ≤ 1000000 → ∃ l, Ev (fun k => refCur k s d (at_ : Int)) l ∧ l.length = d ∧ ∀ x ∈ l, U64 x
  | 0, at_, h => ⟨[], Ev.congr (fun k => refCur.eq_1 k s _) (Ev.now _), rfl, fun x hx => by cases hx⟩
  | d + 1, at_, h => by
    obtain ⟨h1, h2⟩ := digS_in 16 ((bytesOf s).drop at_) 0 (Nat.le_refl _) (by omega) (by decide)
    obtain ⟨l, i1, i2, i3⟩ := refcur_any s hs d (at_ + (digS 16 ((bytesOf s).drop at_) 0).2 + 3) (by omega)
    refine ⟨_, refcur_step s hs d at_ (by omega) l i1, by simp [i2], fun x hx => ?_⟩
    rcases List.mem_cons.1 hx with rfl | hx
    · exact h1
    · exact i3 x hx
theorem digS_read : ∀ (l r : List Int) (d : Nat) (n : Int), AllX l → l.length ≤ d → (d = l.length ∨ ∀ c ∈ r.head?, ¬ isX c = true) → digS d (l ++ r) n = (vx n l, l.length)
  | [], r, 0, n, _, _, _ => by
    rw [digS]
    rfl
  | [], [], d + 1, n, _, _, _ => rfl
  | [], c :: r, d + 1, n, _, _, h => by
    rcases h with h | h
    · simp at h
    · rw [List.nil_append, digS, if_neg (h c (by simp))]
      rfl
  | c :: l, r, 0, n, _, hl, _ => by simp at hl
  | c :: l, r, d + 1, n, hx, hl, h => by
    have ih := digS_read l r d (16 * n + hv c) (fun x hx2 => hx x (List.mem_cons_of_mem _ hx2)) (by simpa using hl) (h.imp (fun e => by simpa using e) id)
    rw [List.cons_append, digS, if_pos (hx c (by simp)), ih]
    rfl
theorem refcur_part (s : ByteArray) (hs : s.size ≤ 10000000) (d at_ : Nat) (ha : at_ ≤ 1000000) (l : List Int) (x y z : Int) (Y : List Int) (hx : ¬ isX x = true) (hl : l.length ≤ 16) (hX : AllX l) (hdr : (bytesOf s).drop at_ = l ++ x :: y :: z :: Y) (q : List Int)
    (h : (bytesOf s).drop (at_ + l.length + 3) = Y → Ev (fun k => refCur k s d ((at_ + l.length + 3 : Nat) : Int)) q) : Ev (fun k => refCur k s (d + 1) (at_ : Int)) (vx 0 l :: q) := by
  have e := digS_read l (x :: y :: z :: Y) 16 0 hX hl (.inr (fun c hc => by
    simp at hc
    rw [← hc]
    exact hx))
  have hst := refcur_step s hs d at_ ha q
  rw [hdr, e] at hst
  refine hst (h ?_)
  rw [show at_ + l.length + 3 = at_ + (l.length + 3) by omega, ← List.drop_drop, hdr, ← List.drop_drop, List.drop_left]
  rfl
theorem refcur_last (s : ByteArray) (hs : s.size ≤ 10000000) (at_ : Nat) (ha : at_ ≤ 1000000) (l : List Int) (hl : l.length ≤ 16) (hX : AllX l) (hdr : (bytesOf s).drop at_ = l) : Ev (fun k => refCur k s 1 (at_ : Int)) [vx 0 l] := by
 have e := digS_read l [] 16 0 hX hl (.inr (fun c hc => by simp at hc))
 rw [List.append_nil] at e
 have hst := refcur_step s hs 0 at_ ha [] (Ev.congr (fun k => refCur.eq_1 k s _) (Ev.now _))
 rw [hdr, e] at hst
 exact hst
theorem refcur_text (s : ByteArray) (hs : s.size ≤ 10000000) (a b c d e f : Int) (h : Text6 s a b c d e f) : Ev (fun k => refCur k s 6 2) [a, b, c, d, e, f] := by
 obtain ⟨u1, u2, u3, u4, u5, u6, ht⟩ := h
 have n59 : ¬ isX 59 = true := by decide
 have l1 : (hexL a).length ≤ 16 := by rw [hexL_len]; exact Nat.le_refl _
 have l3 : (hexL c).length ≤ 16 := by rw [hexL_len]; exact Nat.le_refl _
 have l2 := hexS_len b
 have l4 := hexS_len d
 have l5 := hexS_len e
 have l6 := hexS_len f
 have h0 : (bytesOf s).drop 2 = hexL a ++ 59 :: 105 :: 61 :: (hexS b ++ 59 :: 98 :: 61 :: (hexL c ++ 59 :: 109 :: 61 :: (hexS d ++ 59 :: 116 :: 61 :: (hexS e ++ 59 :: 120 :: 61 :: hexS f)))) := by
  rw [ht]
  rfl
 have g1 := vx_hexL a u1.1 u1.2
 have g2 := vx_hexS b u2.1 u2.2
 have g3 := vx_hexL c u3.1 u3.2
 have g4 := vx_hexS d u4.1 u4.2
 have g5 := vx_hexS e u5.1 u5.2
 have g6 := vx_hexS f u6.1 u6.2
 rw [← g1, ← g2, ← g3, ← g4, ← g5, ← g6]
 rw [g1, g2, g3, g4, g5, g6]
 have r1 := fun q hq => refcur_part s hs 5 2 (by omega) (hexL a) 59 105 61 _ n59 l1 (hexL_isX a) h0 q hq
 rw [g1] at r1
 refine r1 _ (fun h1 => ?_)
 have r2 := fun q hq => refcur_part s hs 4 _ (by omega) (hexS b) 59 98 61 _ n59 l2 (hexS_isX b) h1 q hq
 rw [g2] at r2
 refine r2 _ (fun h2 => ?_)
 have r3 := fun q hq => refcur_part s hs 3 _ (by omega) (hexL c) 59 109 61 _ n59 l3 (hexL_isX c) h2 q hq
 rw [g3] at r3
 refine r3 _ (fun h3 => ?_)
 have r4 := fun q hq => refcur_part s hs 2 _ (by omega) (hexS d) 59 116 61 _ n59 l4 (hexS_isX d) h3 q hq
 rw [g4] at r4
 refine r4 _ (fun h4 => ?_)
 have r5 := fun q hq => refcur_part s hs 1 _ (by omega) (hexS e) 59 120 61 _ n59 l5 (hexS_isX e) h4 q hq
 rw [g5] at r5
 refine r5 _ (fun h5 => ?_)
 have r6 := refcur_last s hs _ (by omega) (hexS f) l6 (hexS_isX f) h5
 rw [g6] at r6
 exact r6
theorem ref_yes (s : ByteArray) (hs : s.size ≤ 10000000) (a b c d e f : Int) (h : Text6 s a b c d e f) : Ev (fun k => logbookref29_Parse.f k s) (a, b, c, d, e, f, true) := by
 have h2 := h
 obtain ⟨u1, u2, u3, u4, u5, u6, ht⟩ := h2
 refine Ev.bind (refcur_text s hs a b c d e f h) ?_
 refine Ev.bind (reftext_tells a b c d e f u1 u2 u3 u4 u5 u6) (Ev.pos ?_ (Ev.now _))
 rw [toList_iff, bytes_str (textL_bytes _ _ _ _ _ _), ht]
theorem ref_no (s : ByteArray) (hs : s.size ≤ 10000000) (h : ∀ a b c d e f, ¬ Text6 s a b c d e f) : Ev (fun k => logbookref29_Parse.f k s) (0, 0, 0, 0, 0, 0, false) := by
 obtain ⟨l, h1, h2, h3⟩ := refcur_any s hs 6 2 (by omega)
 match l, h2, h1, h3 with
 | [a, b, c, d, e, f], _, h1, h3 =>
  have u1 := h3 a (by simp)
  have u2 := h3 b (by simp)
  have u3 := h3 c (by simp)
  have u4 := h3 d (by simp)
  have u5 := h3 e (by simp)
  have u6 := h3 f (by simp)
  refine Ev.bind h1 (Ev.bind (reftext_tells a b c d e f u1 u2 u3 u4 u5 u6) (Ev.neg (fun e1 => ?_) (Ev.now _)))
  rw [toList_iff, bytes_str (textL_bytes _ _ _ _ _ _)] at e1
  exact h a b c d e f ⟨u1, u2, u3, u4, u5, u6, e1.symm⟩
end Cu
namespace EW
open Cu
/-! ### names -/
def Good (c : Int) (i : Nat) : Prop := c = 95 ∨ (65 ≤ c ∧ c ≤ 90) ∨ (48 ≤ c ∧ c ≤ 57 ∧ 0 < i)
theorem wi {i n : Nat} (h : i ≤ n) (hn : n ≤ 140737488355328) : wrap64 ((i : Int) + 1) = ((i + 1 : Nat) : Int) := by
 rw [w64 (by omega) (by omega)]
 omega
theorem j1_step (s : ByteArray) (i : Nat) (hi : i < s.size) (hs : s.size ≤ 140737488351232) (R : Bool) (hg : Good (bt s i) i → Ev (fun k => logbookref04_Name.l0 k s ((i + 1 : Nat) : Int)) R) (hb : ¬ Good (bt s i) i → R = false) :
  Ev (fun k => logbookref04_Name.j1 k s i true) R := by
 refine Ev.step (fun k => logbookref04_Name.j1.eq_2 _ _ _ _) (Ev.pos rfl (Ev.pos (by omega) (Ev.pos (by omega) ?_)))
 rw [wi (i := i) (n := s.size) (by omega) (by omega)]
 unfold Good at hg hb
 generalize bt s (i : Int) = c at hg hb ⊢
 by_cases a : 65 ≤ c ∧ c ≤ 90
 ·have e := hg (Or.inr (Or.inl a))
  exact Ev.pos a.1 (Ev.pos a.2 (Ev.pos (by omega) e))
 ·by_cases u : c = 95
  ·have e := hg (Or.inl u)
   exact Ev.both (fun _ => Ev.neg (by omega) (Ev.pos (by omega) (Ev.pos u e))) (fun _ => Ev.pos (by omega) (Ev.pos u e))
  ·by_cases d : 48 ≤ c ∧ c ≤ 57
   ·refine Ev.neg (by omega) (Ev.pos (by omega) (Ev.neg u (Ev.pos (by omega) ?_)))
    refine Ev.both (fun z => hg (Or.inr (Or.inr ⟨d.1, d.2, by omega⟩))) (fun z => Ev.eq (Ev.now _) (hb (by omega)).symm)
   ·have e : false = R := (hb (by omega)).symm
    exact Ev.both (fun _ => Ev.neg (by omega) (Ev.pos (by omega) (Ev.neg u (Ev.neg (by omega) (Ev.eq (Ev.now _) e))))) (fun _ => Ev.both (fun _ => Ev.neg u (Ev.neg (by omega) (Ev.eq (Ev.now _) e))) (fun _ => Ev.neg u (Ev.eq (Ev.now _) e)))
theorem name_long (s : ByteArray) (hs : s.size ≤ 140737488351232) (h : 64 < s.size) : ∀ (d i : Nat), d + i = 65 → Ev (fun k => logbookref04_Name.l0 k s i) false
 | 0, i, hd => by
  refine Ev.step (fun k => logbookref04_Name.l0.eq_2 _ _ _) (Ev.both (fun _ => ?_) (fun _ => ?_))
  ·rw [decide_eq_false (show ¬ (i : Int) ≤ 64 by omega)]
   exact Ev.step (fun k => logbookref04_Name.j1.eq_2 _ _ _ _) (Ev.neg (by simp) (Ev.pos (by omega) (Ev.eq (Ev.now _) (decide_eq_false (by omega)))))
  ·exact Ev.step (fun k => logbookref04_Name.j1.eq_2 _ _ _ _) (Ev.neg (by simp) (Ev.pos (by omega) (Ev.eq (Ev.now _) (decide_eq_false (by omega)))))
 | d + 1, i, hd => by
  refine Ev.step (fun k => logbookref04_Name.l0.eq_2 _ _ _) (Ev.pos (by omega) ?_)
  rw [decide_eq_true (show (i : Int) ≤ 64 by omega)]
  exact j1_step s i (by omega) hs false (fun _ => name_long s hs h d (i + 1) (by omega)) (fun _ => rfl)
theorem name_short (s : ByteArray) (hs : s.size ≤ 64) (h1 : 1 ≤ s.size) (R : Bool) : ∀ (d i : Nat), d + i = s.size → (R = true → ∀ j, i ≤ j → j < s.size → Good (bt s j) j) → (R = false → ∃ j, i ≤ j ∧ j < s.size ∧ ¬ Good (bt s j) j) → Ev (fun k => logbookref04_Name.l0 k s i) R
  | 0, i, hd, ht, hf => by
    have e : R = true := by
      cases R with
      | true => rfl
      | false =>
        obtain ⟨j, h2, h3, _⟩ := hf rfl
        omega
    refine Ev.step (fun k => logbookref04_Name.l0.eq_2 _ _ _) (Ev.neg (by omega) ?_)
    exact Ev.step (fun k => logbookref04_Name.j1.eq_2 _ _ _ _) (Ev.neg (by simp) (Ev.pos (by omega) (Ev.eq (Ev.now _) (by rw [e]; exact decide_eq_true (by omega)))))
  | d + 1, i, hd, ht, hf => by
    refine Ev.step (fun k => logbookref04_Name.l0.eq_2 _ _ _) (Ev.pos (by omega) ?_)
    rw [decide_eq_true (show (i : Int) ≤ 64 by omega)]
    refine j1_step s i (by omega) (by omega) R (fun hg => ?_) (fun hn => ?_)
    · refine name_short s hs h1 R d (i + 1) (by omega) (fun hr j h2 h3 => ht hr j (by omega) h3) (fun hr => ?_)
      obtain ⟨j, h2, h3, h4⟩ := hf hr
      refine ⟨j, ?_, h3, h4⟩
      rcases Nat.lt_or_ge i j with h | h
      · exact h
      · obtain rfl : j = i := by omega
        exact absurd hg h4
    · cases R with
      | false => rfl
      | true => exact absurd (ht rfl i (Nat.le_refl _) (by omega)) hn
def nameV (s : ByteArray) : Bool := if s.size = 0 then false else if s.size > 64 then false else if 48 ≤ bt s 0 ∧ bt s 0 ≤ 57 then false else (bytesOf s).all nameB
theorem name_f (s : ByteArray) : item_Name.f s = some (nameV s) := by
 unfold item_Name.f nameV
 split
 ·rfl
 ·split
  ·rfl
  ·split <;> rfl
theorem nameB_iff (c : Int) : nameB c = true ↔ (c = 95 ∨ (65 ≤ c ∧ c ≤ 90) ∨ (48 ≤ c ∧ c ≤ 57)) := by
 constructor
 ·intro h
  apply Decidable.byContradiction
  intro hn
  rw [nameB_no hn] at h
  cases h
 ·exact nameB_yes
theorem all_bytes (s : ByteArray) : (bytesOf s).all nameB = true ↔ ∀ j, j < s.size → nameB (bt s (j : Nat)) = true := by
 rw [List.all_eq_true]
 constructor
 ·intro h j hj
  have h1 : j < (bytesOf s).length := by rw [bytesOf_length]; exact hj
  have := h _ (List.getElem_mem h1)
  rw [bt_get, List.getD_eq_getElem?_getD, List.getElem?_eq_getElem h1]
  exact this
 ·intro h x hx
  obtain ⟨j, hj, rfl⟩ := List.mem_iff_getElem.1 hx
  rw [bytesOf_length] at hj
  have h1 : j < (bytesOf s).length := by rw [bytesOf_length]; exact hj
  have := h j hj
  rw [bt_get, List.getD_eq_getElem?_getD, List.getElem?_eq_getElem h1] at this
  exact this
theorem ref_name (s : ByteArray) (hs : s.size ≤ 140737488351232) : Ev (fun k => logbookref04_Name.f k s) (nameV s) := by
  unfold nameV
  by_cases h0 : s.size = 0
  · rw [if_pos h0]
    exact Ev.step (fun k => logbookref04_Name.l0.eq_2 _ _ _) (Ev.neg (by omega) (Ev.step (fun k => logbookref04_Name.j1.eq_2 _ _ _ _) (Ev.neg (by simp) (Ev.neg (by omega) (Ev.now _)))))
  rw [if_neg h0]
  by_cases h64 : s.size > 64
  · rw [if_pos h64]
    exact name_long s hs h64 65 0 rfl
  rw [if_neg h64]
  by_cases hd : 48 ≤ bt s 0 ∧ bt s 0 ≤ 57
  · rw [if_pos hd]
    refine name_short s (by omega) (by omega) false s.size 0 (by omega) (fun h => by cases h) (fun _ => ⟨0, Nat.le_refl _, by omega, ?_⟩)
    unfold Good
    have e : bt s ((0 : Nat) : Int) = bt s 0 := rfl
    rw [e]
    omega
  · rw [if_neg hd]
    refine name_short s (by omega) (by omega) _ s.size 0 (by omega) (fun h j _ hj => ?_) (fun h => ?_)
    · have h1 := (nameB_iff _).1 ((all_bytes s).1 h j hj)
      unfold Good
      rcases Nat.eq_zero_or_pos j with hz | hz
      · subst hz
        have e : bt s ((0 : Nat) : Int) = bt s 0 := rfl
        rw [e] at h1 ⊢
        omega
      · omega
    · apply Classical.byContradiction
      intro hn
      have : (bytesOf s).all nameB = true := (all_bytes s).2 (fun j hj => by
        rw [nameB_iff]
        have : Good (bt s j) j := Classical.byContradiction fun hx => hn ⟨j, Nat.zero_le _, hj, hx⟩
        unfold Good at this
        omega)
      rw [this] at h
      cases h
/-! ### cuts -/
def idxE : List Int → Int
  | [] => -1
  | b :: l => if b = 61 then 0 else if idxE l = -1 then -1 else idxE l + 1
theorem u61 (b : UInt8) : (b == 61) = decide ((b.toNat : Int) = 61) := by
 by_cases h : b = 61
 ·subst h
  rfl
 ·rw [beq_false_of_ne h]
  symm
  apply decide_eq_false
  intro e
  apply h
  apply UInt8.toNat_inj.1
  show b.toNat = 61
  omega
theorem idx_eq : ∀ l : List UInt8, Lib.indexByte l 61 = idxE (l.map fun b => (b.toNat : Int))
  | [] => rfl
  | b :: l => by
    rw [List.map_cons, Lib.indexByte, idxE, idx_eq l, u61]
    simp only [decide_eq_true_eq, beq_iff_eq]
theorem idxE_cases : ∀ l : List Int, (idxE l = -1 ∧ ∀ j, j < l.length → l.getD j 0 ≠ 61) ∨ (∃ m : Nat, idxE l = m ∧ m < l.length ∧ l.getD m 0 = 61 ∧ ∀ j, j < m → l.getD j 0 ≠ 61)
  | [] => .inl ⟨rfl, fun j h => by simp at h⟩
  | c :: r => by
    by_cases e : c = 61
    · exact .inr ⟨0, by simp [idxE, e], by simp, by simpa using e, fun j h => by omega⟩
    · rcases idxE_cases r with ⟨h1, h2⟩ | ⟨m, h1, h2, h3, h4⟩
      · refine .inl ⟨by rw [idxE, if_neg e, if_pos h1], fun j hj => ?_⟩
        cases j with
        | zero => simpa using e
        | succ j => simpa using h2 j (by simpa using hj)
      · refine .inr ⟨m + 1, by rw [idxE, if_neg e, h1, if_neg (by omega)]; omega, by simpa using h2, by simpa using h3, fun j hj => ?_⟩
        cases j with
        | zero => simpa using e
        | succ j => simpa using h4 j (by omega)
def eqs : ByteArray := ⟨#[61]⟩
theorem index_tells (s : ByteArray) : stringslite_Index.f s eqs = some (idxE (bytesOf s)) := by
 have e : stringslite_Index.f s eqs = some (Lib.indexByte s.data.toList 61) := rfl
 rw [e, idx_eq]
 rfl
def splitV (s : ByteArray) (m : Nat) : ByteArray × ByteArray × Bool := if nameV (s.extract 0 m) = true then (s.extract 0 m, s.extract (m + 1) s.size, true) else (⟨#[]⟩, ⟨#[]⟩, false)
theorem weq {m n : Nat} (h : m ≤ n) (hn : n ≤ 140737488355328) : wrap64 ((m : Int) + ((eqs.size : Nat) : Int)) = ((m + 1 : Nat) : Int) := by
 have h1 : ((eqs.size : Nat) : Int) = 1 := rfl
 generalize ((eqs.size : Nat) : Int) = z at h1 ⊢
 subst h1
 exact wi h hn
theorem split_hit (s : ByteArray) (hs : s.size ≤ 140737488351232) (m : Nat) (h : idxE (bytesOf s) = m) (hm : m < s.size) : item_Split.f s = some (splitV s m) := by
 have b1 : m ≤ s.size := by omega
 have b2 : s.size ≤ 140737488355328 := by omega
 have e1 : strings_Cut.f s eqs = some (s.extract 0 m, s.extract (m + 1) s.size, true) := by
  unfold strings_Cut.f stringslite_Cut.f
  rw [index_tells, h]
  simp only [Option.bind_some]
  rw [weq b1 b2, if_pos (by omega), if_pos (by omega), if_pos (by omega), if_pos (by omega), if_pos (by omega)]
  rfl
 show (strings_Cut.f s eqs).bind _ = _
 rw [e1]
 simp only [Option.bind_some]
 rw [if_pos trivial, name_f]
 simp only [Option.bind_some]
 unfold splitV
 split <;> rfl
theorem split_miss (s : ByteArray) (h : idxE (bytesOf s) = -1) : item_Split.f s = some (⟨#[]⟩, ⟨#[]⟩, false) := by
 have e1 : strings_Cut.f s eqs = some (s, ⟨#[]⟩, false) := by
  unfold strings_Cut.f stringslite_Cut.f
  rw [index_tells, h]
  rfl
 show (strings_Cut.f s eqs).bind _ = _
 rw [e1]
 rfl
theorem ref_hit (s : ByteArray) (hs : s.size ≤ 140737488351232) (m : Nat) (hm : m < s.size) (he : bt s (m : Nat) = 61) (hn : ∀ j, j < m → bt s (j : Nat) ≠ 61) : ∀ (d i : Nat), d + i = m → Ev (fun k => logbookref04_Split.l0 k s i) (splitV s m)
 | 0, i, hd => by
  obtain rfl : i = m := by omega
  have hsz : (s.extract 0 i).size ≤ 140737488351232 := by
   rw [ByteArray.size_extract]
   omega
  refine Ev.step (fun k => logbookref04_Split.l0.eq_2 _ _ _) ?_
  rw [wi (i := i) (n := s.size) (by omega) (by omega)]
  refine Ev.pos (by omega) (Ev.pos (by omega) (Ev.pos he (Ev.pos (by omega) ?_)))
  rw [Int.toNat_natCast, Int.toNat_natCast]
  refine Ev.bind (ref_name _ hsz) ?_
  unfold splitV
  refine Ev.both (fun h => ?_) (fun h => ?_)
  ·rw [if_pos h]
   exact Ev.pos (by omega) (Ev.pos (by omega) (Ev.now _))
  ·rw [if_neg h]
   exact Ev.now _
 | d + 1, i, hd => by
  refine Ev.step (fun k => logbookref04_Split.l0.eq_2 _ _ _) (Ev.pos (by omega) (Ev.pos (by omega) (Ev.neg (hn i (by omega)) ?_)))
  rw [wi (i := i) (n := s.size) (by omega) (by omega)]
  exact ref_hit s hs m hm he hn d (i + 1) (by omega)
theorem ref_miss (s : ByteArray) (hs : s.size ≤ 140737488351232) (hn : ∀ j, j < s.size → bt s (j : Nat) ≠ 61) : ∀ (d i : Nat), d + i = s.size → Ev (fun k => logbookref04_Split.l0 k s i) (⟨#[]⟩, ⟨#[]⟩, false)
  | 0, i, hd => Ev.step (fun k => logbookref04_Split.l0.eq_2 _ _ _) (Ev.neg (by omega) (Ev.now _))
  | d + 1, i, hd => by
    refine Ev.step (fun k => logbookref04_Split.l0.eq_2 _ _ _) (Ev.pos (by omega) (Ev.pos (by omega) (Ev.neg (hn i (by omega)) ?_)))
    rw [wi (i := i) (n := s.size) (by omega) (by omega)]
    exact ref_miss s hs hn d (i + 1) (by omega)
theorem split_tells (s : ByteArray) (hs : s.size ≤ 140737488351232) : ∃ v, item_Split.f s = some v ∧ Ev (fun k => logbookref04_Split.f k s) v := by
 rcases idxE_cases (bytesOf s) with ⟨h1, h2⟩ | ⟨m, h1, h2, h3, h4⟩
 ·refine ⟨_, split_miss s h1, ?_⟩
  exact ref_miss s hs (fun j hj => by rw [bt_get]; exact h2 j (by rw [bytesOf_length]; exact hj)) s.size 0 (by omega)
 ·rw [bytesOf_length] at h2
  refine ⟨_, split_hit s hs m h1 h2, ?_⟩
  exact ref_hit s hs m h2 (by rw [bt_get]; exact h3) (fun j hj => by rw [bt_get]; exact h4 j hj) m 0 (by omega)
/-! ### items as texts -/
theorem split_sizes (s : ByteArray) (hs : s.size ≤ 140737488351232) : ∃ v, item_Split.f s = some v ∧ Ev (fun k => logbookref04_Split.f k s) v ∧ v.1.size + v.2.1.size ≤ s.size := by
 rcases idxE_cases (bytesOf s) with ⟨h1, h2⟩ | ⟨m, h1, h2, h3, h4⟩
 ·refine ⟨_, split_miss s h1, ?_, Nat.zero_le _⟩
  exact ref_miss s hs (fun j hj => by rw [bt_get]; exact h2 j (by rw [bytesOf_length]; exact hj)) s.size 0 (by omega)
 ·rw [bytesOf_length] at h2
  refine ⟨_, split_hit s hs m h1 h2, ref_hit s hs m h2 (by rw [bt_get]; exact h3) (fun j hj => by rw [bt_get]; exact h4 j hj) m 0 (by omega), ?_⟩
  unfold splitV
  split
  ·show (s.extract 0 m).size + (s.extract (m + 1) s.size).size ≤ s.size
   rw [ByteArray.size_extract, ByteArray.size_extract]
   omega
  ·exact Nat.zero_le _
theorem printB_iff (c : Int) : printB c = true ↔ ¬ ((c < 32 ∧ c ≠ 9) ∨ c = 127) := by
 unfold printB
 simp
 omega
theorem printable_go (s : ByteArray) (hs : s.size ≤ 140737488351232) : ∀ (d i : Nat), d + i = s.size → Ev (fun k => logbookref32_printable.l0 k s (i : Int)) (((bytesOf s).drop i).all printB)
  | 0, i, hd => by
    rw [List.drop_of_length_le (by rw [bytesOf_length]; omega)]
    exact Ev.step (fun k => logbookref32_printable.l0.eq_2 _ _ _) (Ev.neg (by omega) (Ev.now _))
  | d + 1, i, hd => by
    have hi : i < s.size := by omega
    have ih := printable_go s hs d (i + 1) (by omega)
    refine Ev.step (fun k => logbookref32_printable.l0.eq_2 _ _ _) (Ev.pos (by omega) (Ev.pos (by omega) ?_))
    rw [wi (i := i) (n := s.size) (by omega) (by omega), bt_drop s i hi, List.all_cons]
    generalize bt s (i : Int) = c
    have yes : ¬ ((c < 32 ∧ c ≠ 9) ∨ c = 127) → ((bytesOf s).drop (i + 1)).all printB = (printB c && ((bytesOf s).drop (i + 1)).all printB) := fun h => by
      rw [(printB_iff c).2 h, Bool.true_and]
    have no : ((c < 32 ∧ c ≠ 9) ∨ c = 127) → false = (printB c && ((bytesOf s).drop (i + 1)).all printB) := fun h => by
      have : printB c = false := by
        cases hp : printB c with
        | false => rfl
        | true => exact absurd h ((printB_iff c).1 hp)
      rw [this, Bool.false_and]
    refine Ev.both (fun h32 => Ev.both (fun h9 => Ev.neg (by omega) (Ev.eq ih (yes (by omega)))) (fun h9 => Ev.eq (Ev.now _) (no (.inl ⟨h32, h9⟩)))) (fun h32 => Ev.both (fun h127 => Ev.eq (Ev.now _) (no (.inr h127))) (fun h127 => Ev.eq ih (yes (by omega))))
theorem bytes_go (n : Int) (h0 : 0 ≤ n) (h1 : n ≤ 18446744073709551615) : ∀ (d i : Nat), d + i = 8 → Ev (fun k => logbookref01_Bytes.l0 k (n / 256 ^ i) 8 (leGo i n) (i : Int)) (leGo 8 n)
 | 0, i, hd => by
  obtain rfl : i = 8 := by omega
  exact Ev.step (fun k => logbookref01_Bytes.l0.eq_2 _ _ _ _ _) (Ev.neg (by decide) (Ev.now _))
 | d + 1, i, hd => by
  have hin := leGo_in i n h0 h1
  have hnx := leGo_next i n
  have hlen := leGo_len i n
  refine Ev.step (fun k => logbookref01_Bytes.l0.eq_2 _ _ _ _ _) (Ev.pos (by omega) (Ev.pos (by omega) (Ev.pos (by omega) ?_)))
  have ih := bytes_go n h0 h1 d (i + 1) (by omega)
  rw [← hnx] at ih
  rw [wi (i := i) (n := 8) (by omega) (by omega), Int.tdiv_eq_ediv_of_nonneg hin.1, Int.tmod_eq_emod_of_nonneg hin.1, wu64 (by omega) (by omega), show n / 256 ^ i % 256 % 256 = n / 256 ^ i % 256 by omega]
  exact ih
theorem bytes_tells (n : Int) (h0 : 0 ≤ n) (h1 : n ≤ 18446744073709551615) : Ev (fun k => logbookref01_Bytes.f k n 8) (leGo 8 n) := by
 have h := bytes_go n h0 h1 8 0 rfl
 rw [Int.pow_zero, Int.ediv_one] at h
 exact h
theorem le_tells (n : Int) (h0 : 0 ≤ n) (h1 : n ≤ 18446744073709551615) : le_Bytes.f n 8 = some (leGo 8 n) := if_pos ⟨h0, h1⟩
theorem le_size (n : Int) : (strOfNums (leGo 8 n)).size = 8 := by
 rw [strOfNums_size, leGo_len]
theorem item_same (s : ByteArray) (hs : s.size ≤ 140737488351232) : ∃ r, export_Item.f s = some r ∧ Ev (fun k => logbookref32_Item.f k s) r ∧ r.size ≤ s.size + 10 := by
  obtain ⟨⟨f, v, b⟩, h1, h2, h3⟩ := split_sizes s hs
  have h3' : f.size + v.size ≤ s.size := h3
  cases b with
  | false => exact ⟨⟨#[]⟩, by unfold export_Item.f; rw [h1]; rfl, Ev.bind h2 (Ev.neg (by simp) (Ev.now _)), Nat.zero_le _⟩
  | true =>
    have hp : export_printable.f v = some ((bytesOf v).all printB) := if_pos (by omega)
    have hq := printable_go v (by omega) v.size 0 rfl
    rw [List.drop_zero] at hq
    cases hb : (bytesOf v).all printB with
    | true =>
      rw [hb] at hp hq
      refine ⟨s ++ ⟨#[10]⟩, ?_, Ev.bind h2 (Ev.pos rfl (Ev.bind hq (Ev.pos rfl (Ev.pos (by omega) (Ev.now _))))), by rw [ByteArray.size_append]; show s.size + 1 ≤ _; omega⟩
      unfold export_Item.f
      rw [h1]
      simp only [Option.bind_some]
      rw [if_pos trivial, hp]
      simp only [Option.bind_some]
      rw [if_pos trivial, if_pos (by omega)]
    | false =>
      rw [hb] at hp hq
      have hl := le_tells (v.size : Int) (by omega) (by omega)
      have hm := bytes_tells (v.size : Int) (by omega) (by omega)
      have hz := le_size (v.size : Int)
      refine ⟨(((f ++ ⟨#[10]⟩) ++ strOfNums (leGo 8 (v.size : Int))) ++ v) ++ ⟨#[10]⟩, ?_, Ev.bind h2 (Ev.pos rfl (Ev.bind hq (Ev.neg (by simp) (Ev.pos (by omega) (Ev.pos (by omega) (Ev.bind hm (Ev.pos (by omega) (Ev.pos (by omega) (Ev.pos (by omega) (Ev.now _)))))))))), ?_⟩
      · unfold export_Item.f
        rw [h1]
        simp only [Option.bind_some]
        rw [if_pos trivial, hp]
        simp only [Option.bind_some]
        rw [if_neg (by simp), if_pos (by omega), if_pos (by omega), hl]
        simp only [Option.bind_some]
        rw [if_pos (by omega), if_pos (by omega), if_pos (by omega)]
      · rw [ByteArray.size_append, ByteArray.size_append, ByteArray.size_append, ByteArray.size_append, hz]
        show f.size + 1 + 8 + v.size + 1 ≤ _
        omega
namespace Num
theorem w8 {n : Int} (h0 : 0 ≤ n) (h : n < 10) : IntKind.u64.wrap (48 + n) % 256 = 48 + n := by
 rw [wu64 (by omega) (by omega)]
 omega
theorem div10 {n : Int} (h0 : 0 ≤ n) (h1 : n ≤ 18446744073709551615) : IntKind.u64.wrap (Int.tdiv n 10) = n / 10 := by
 rw [Int.tdiv_eq_ediv_of_nonneg h0, wu64 (by omega) (by omega)]
theorem mod10 {n : Int} (h0 : 0 ≤ n) : IntKind.u64.wrap (48 + Int.tmod n 10) % 256 = 48 + n % 10 := by
 rw [Int.tmod_eq_emod_of_nonneg h0]
 exact w8 (by omega) (by omega)
theorem small_div {n m : Int} (h0 : 0 ≤ n) (h1 : n ≤ m) : 0 ≤ n / 10 ∧ n / 10 ≤ m := by omega
theorem dec_tells : ∀ (d : Nat) (n : Int), d ≤ 20 → 0 ≤ n → n ≤ 18446744073709551615 → n < 10 ^ (d + 1) → Ev (fun k => export_Decimal.f k n) (strOfNums (decF (d + 1) n))
 | d, n, hd, h0, h1, hn => by
  refine Ev.step (fun k => export_Decimal.f.eq_2 _ _) ?_
  by_cases h : n < 10
  ·refine Ev.pos h ?_
   rw [w8 h0 h, decF_small h]
   exact Ev.now _
  ·refine Ev.neg h ?_
   rw [decF_big h, div10 h0 h1, mod10 h0]
   match d, hn with
   | 0, hn =>
    simp at hn
    exact absurd hn h
   | d + 1, hn =>
    have hs := small_div h0 h1
    refine Ev.bind (dec_tells d (n / 10) (by omega) hs.1 hs.2 (pow_lt hn)) (Ev.bindc rfl (Ev.pos ?_ ?_))
    ·rw [size_str, size_str]
     have := decF_len (d + 1) (n / 10)
     simp
     omega
    ·rw [str_append]
     exact Ev.now _
theorem lt20 {n : Int} (h1 : n ≤ 18446744073709551615) : n < 10 ^ (19 + 1) := by
 have : (10 : Int) ^ (19 + 1) = 100000000000000000000 := by decide
 omega
def dec (n : Int) : List Int := decF 20 n
theorem decimal_tells (n : Int) (h0 : 0 ≤ n) (h1 : n ≤ 18446744073709551615) : Ev (fun k => export_Decimal.f k n) (strOfNums (dec n)) := dec_tells 19 n (by omega) h0 h1 (lt20 h1)

/-- The reference's: digits are put ahead. -/
theorem ref_go : ∀ (d : Nat) (n : Int) (acc : List Int), d ≤ 20 → acc.length + d ≤ 40 → 0 ≤ n → n ≤ 18446744073709551615 → n < 10 ^ d → acc ≠ [] → Bytes acc →
  Ev (fun k => logbookref32_Decimal.l0 k n (strOfNums acc)) (strOfNums ((if n = 0 then [] else decF d n) ++ acc))
 | d, n, acc, hd, hl, h0, h1, hn, hne, hb => by
  by_cases hz : n = 0
  ·subst hz
   refine Ev.step (fun k => logbookref32_Decimal.l0.eq_2 _ _ _) (Ev.neg (by omega) (Ev.neg ?_ ?_))
   ·intro e
    have := toList_eq_nil.1 e
    rw [size_str] at this
    exact hne (List.eq_nil_of_length_eq_zero this)
   ·rw [if_pos rfl]
    exact Ev.now _
  ·rw [if_neg hz]
   match d, hn with
   | 0, hn =>
    simp at hn
    omega
   | d + 1, hn =>
    have hs := small_div h0 h1
    refine Ev.step (fun k => logbookref32_Decimal.l0.eq_2 _ _ _) (Ev.pos (by omega) (Ev.bindc rfl (Ev.pos ?_ ?_)))
    ·rw [size_str, size_str]
     simp
     omega
    ·rw [mod10 h0, div10 h0 h1, str_append]
     have ih := ref_go d (n / 10) ((48 + n % 10) :: acc) (by omega) (by simp; omega) hs.1 hs.2 (pow_lt hn) (by simp) (by
      intro x hx
      rcases List.mem_cons.1 hx with rfl | hx
      ·omega
      ·exact hb x hx)
     refine Ev.eq ih ?_
     congr 1
     by_cases h : n < 10
     ·rw [if_pos (by omega), decF_small h, show n % 10 = n by omega]
      rfl
     ·rw [if_neg (by omega), decF_big h, List.append_assoc]
      rfl
theorem ref_decimal (n : Int) (h0 : 0 ≤ n) (h1 : n ≤ 18446744073709551615) : Ev (fun k => logbookref32_Decimal.f k n) (strOfNums (dec n)) := by
 have hs := small_div h0 h1
 have hq : n / 10 < 10 ^ 19 := pow_lt (lt20 h1)
 have ih := ref_go 19 (n / 10) [48 + n % 10] (by omega) (by simp) hs.1 hs.2 hq (by simp) (by
  intro x hx
  rw [List.mem_singleton.1 hx]
  omega)
 have hf : ∀ k, logbookref32_Decimal.f k n = logbookref32_Decimal.l0 k n (⟨#[]⟩ : ByteArray) := fun _ => rfl
 refine Ev.congr hf ?_
 have e : (if n / 10 = 0 then [] else decF 19 (n / 10)) ++ [48 + n % 10] = dec n := by
  by_cases h : n < 10
  ·rw [if_pos (by omega)]
   show _ = decF 20 n
   rw [decF_small h, show n % 10 = n by omega]
   rfl
  ·rw [if_neg (by omega)]
   exact (decF_big h).symm
 rw [e] at ih
 have e2 : strOfNums [48 + n % 10] ++ (⟨#[]⟩ : ByteArray) = strOfNums [48 + n % 10] := by
  apply bytesOf_inj
  rw [bytesOf_append, bytesOf_empty, List.append_nil]
 have e3 : (strOfNums [48 + n % 10]).size + (⟨#[]⟩ : ByteArray).size ≤ 9223372036854775807 := by
  rw [size_str]
  show (1 : Nat) + 0 ≤ 9223372036854775807
  decide
 by_cases hz : n > 0
 ·refine Ev.step (fun k => logbookref32_Decimal.l0.eq_2 _ _ _) (Ev.pos hz (Ev.bindc rfl (Ev.pos ?_ ?_)))
  ·rw [mod10 h0]
   exact e3
  ·rw [mod10 h0, div10 h0 h1, e2]
   exact ih
 ·refine Ev.step (fun k => logbookref32_Decimal.l0.eq_2 _ _ _) (Ev.neg hz (Ev.pos (toList_nil rfl) (Ev.bindc rfl (Ev.pos ?_ ?_))))
  ·rw [mod10 h0]
   exact e3
  ·rw [mod10 h0, div10 h0 h1, e2]
   exact ih

/-! ### what is read -/
theorem numGo_append : ∀ (l r : List Int) (a : Int), numGo (l ++ r) a = (numGo l a).bind fun b => numGo r b
  | [], r, a => rfl
  | c :: l, r, a => by
    simp only [List.cons_append, numGo]
    split
    · rfl
    · split
      · rfl
      · exact numGo_append l r _
theorem numGo_dec : ∀ (d : Nat) (n : Int), 0 ≤ n → n ≤ 18446744073709551615 → n < 10 ^ (d + 1) → numGo (decF (d + 1) n) 0 = some n
 | d, n, h0, h1, hn => by
  by_cases h : n < 10
  ·rw [decF_small h, numGo_go (by omega) (by omega) (by omega)]
   simp only [numGo]
   congr 1
   omega
  ·match d, hn with
   | 0, hn =>
    simp at hn
    exact absurd hn h
   | d + 1, hn =>
    have hs := small_div h0 h1
    rw [decF_big h, numGo_append, numGo_dec d (n / 10) hs.1 hs.2 (pow_lt hn)]
    show numGo [48 + n % 10] (n / 10) = some n
    rw [numGo_go (by omega) (by omega) (by omega)]
    simp only [numGo]
    congr 1
    omega
theorem numGo_tells : ∀ (l : List Int) (a b : Int), numGo l a = some b → 0 ≤ a → a ≤ 18446744073709551615 → Digits l ∧ b = valF a l ∧ 0 ≤ b ∧ b ≤ 18446744073709551615
 | [], a, b, h, h0, h1 => by
  injection h with h
  subst h
  exact ⟨fun x hx => absurd hx (by simp), rfl, h0, h1⟩
 | c :: l, a, b, h, h0, h1 => by
  simp only [numGo] at h
  split at h
  ·cases h
  ·split at h
   ·cases h
   ·rename_i g1 g2
    obtain ⟨p, q, r, s⟩ := numGo_tells l _ b h (by omega) (by omega)
    refine ⟨fun x hx => ?_, q, r, s⟩
    rcases List.mem_cons.1 hx with rfl | hx
    ·omega
    ·exact p x hx
theorem dec_of_numGo {l : List Int} {b : Int} (h : numGo l 0 = some b) (hne : l ≠ []) (hl : l.length ≤ 20) (hz : ∀ c r, l = c :: r → c = 48 → r = []) : dec b = l := by
 obtain ⟨h1, h2, _, _⟩ := numGo_tells l 0 b h (by omega) (by omega)
 rw [h2]
 exact dec_valF 20 l hl hne h1 hz
theorem dec_facts (n : Int) (h0 : 0 ≤ n) (h1 : n ≤ 18446744073709551615) : dec n ≠ [] ∧ (dec n).length ≤ 20 ∧ (∀ c r, dec n = c :: r → c = 48 → r = []) ∧ Bytes (dec n) := by
 refine ⟨decF_ne 19 n, decF_len 20 n, fun c r e hc => ?_, decF_Bytes 20 n h0⟩
 by_cases hz : n < 1
 ·have : dec n = [48 + n] := decF_small (by omega)
  rw [this] at e
  injection e with _ e
  exact e.symm
 ·obtain ⟨c', r', e', hc'⟩ := decF_head 20 n (by omega) (lt20 h1)
  have e2 : c' :: r' = c :: r := e'.symm.trans e
  injection e2 with e3 _
  exact absurd (e3.trans hc) hc'
/-- What the program reads. -/
theorem number_yes (n : Int) (h0 : 0 ≤ n) (h1 : n ≤ 18446744073709551615) : export_Number.f (strOfNums (dec n)) = some (n, true) := by
 obtain ⟨f1, f2, f3, f4⟩ := dec_facts n h0 h1
 unfold export_Number.f
 have hs := size_str (dec n)
 rw [if_neg (by rw [hs]; exact fun e => f1 (List.eq_nil_of_length_eq_zero e)), if_neg (by rw [hs]; omega), if_neg, bytes_str f4]
 ·rw [show numGo (dec n) 0 = some n from numGo_dec 19 n h0 h1 (lt20 h1)]
 ·rintro ⟨e1, e2⟩
  rw [hs] at e2
  have e3 : bt (strOfNums (dec n)) ((0 : Nat) : Int) = (dec n).getD 0 0 := by rw [bt_get, bytes_str f4]
  match hh : dec n, f1 with
  | c :: r, _ =>
   rw [hh] at e2 e3
   have := f3 c r hh (by
    rw [← hh] at e3
    rw [hh] at e3
    have e4 : bt (strOfNums (c :: r)) 0 = c := by simpa [hh] using e3
    rw [hh] at e1
    rw [← e1]
    exact e4.symm)
   rw [this] at e2
   simp at e2
theorem number_no (s : ByteArray) (h : ∀ n, 0 ≤ n → n ≤ 18446744073709551615 → dec n ≠ bytesOf s) : export_Number.f s = some (0, false) := by
  unfold export_Number.f
  split
  · rfl
  · rename_i g1
    split
    · rfl
    · rename_i g2
      split
      · rfl
      · rename_i g3
        cases hh : numGo (bytesOf s) 0 with
        | none => rfl
        | some b =>
          obtain ⟨_, _, b0, b1⟩ := numGo_tells _ 0 b hh (by omega) (by omega)
          refine absurd (dec_of_numGo hh (bytesOf_cons_size g1) (by rw [bytesOf_length]; omega) (fun c r e hc => ?_)) (h b b0 b1)
          have e1 : bt s ((0 : Nat) : Int) = c := by rw [bt_get, e]; rfl
          match r, e with
          | [], _ => rfl
          | x :: r, e =>
            refine absurd ⟨?_, ?_⟩ g3
            · exact e1.trans hc
            · rw [← bytesOf_length, e]
              simp
end Num
end EW
end Go.Proofs.YtbbegchdlkmebaaDoor.Pure
