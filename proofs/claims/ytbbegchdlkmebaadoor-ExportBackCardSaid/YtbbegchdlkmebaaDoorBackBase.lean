/- What ExportReads and ExportBack lean on: cursors, items and numbers, written and read: in plain Lean. -/
import Derived.Test.YtbbegchdlkmebaaDoorPExportBackx2
import Derived.Test.YtbbegchdlkmebaaDoorPExportBackx3
import Derived.Test.YtbbegchdlkmebaaDoorPExportBackx4
import Derived.Test.YtbbegchdlkmebaaDoorPExportBackx5
import Derived.Test.YtbbegchdlkmebaaDoorPExportBackx6
import Derived.Test.YtbbegchdlkmebaaDoorPExportBackx7
import Derived.Test.YtbbegchdlkmebaaDoorPExportBackx8
import Derived.Test.YtbbegchdlkmebaaDoorPExportBackx9
import Derived.Test.YtbbegchdlkmebaaDoorPExportBackx10
import Derived.Test.YtbbegchdlkmebaaDoorHex
import Derived.Test.YtbbegchdlkmebaaDoorCut
import Derived.Test.YtbbegchdlkmebaaDoorDec
import Derived.Test.YtbbegchdlkmebaaDoorStr
import Derived.Test.YtbbegchdlkmebaaDoorEvs
namespace Go.Proofs.YtbbegchdlkmebaaDoor.Pure
open Go.RowKit Go.Proofs.YtbbegchdlkmebaaDoor.PExportBack Go.Proofs.YtbbegchdlkmebaaDoorW.PrintWords Go.Proofs.YtbbegchdlkmebaaDoorW.PrintLast Go.Proofs.YtbbegchdlkmebaaDoorW.PrintMore Go.Proofs.YtbbegchdlkmebaaDoor.Evs Go.Proofs.YtbbegchdlkmebaaDoor.Str Go.Proofs.YtbbegchdlkmebaaDoor.Conv Go.Proofs.YtbbegchdlkmebaaDoor.Hex Go.Proofs.YtbbegchdlkmebaaDoor.Cut Go.Proofs.YtbbegchdlkmebaaDoor.Dec
set_option linter.unusedVariables false
set_option linter.unusedSimpArgs false
namespace Cu
theorem hex_f (n : Int) (h : U64 n) : name_Hex.f n = some (strOfNums (hexL n)) := if_pos h
theorem trim_go : ∀ (d : Nat) (l : List Int), l.length = d → Bytes l → d ≤ 100000000 → Ev (fun k => strings_trimLeftByte.l0 k (strOfNums l) 48) (strOfNums (trim0 l))
  | 0, l, hl, hb, hd => by
    obtain rfl := List.eq_nil_of_length_eq_zero hl
    exact Ev.step (fun k => strings_trimLeftByte.l0.eq_2 _ _ _) (Ev.neg (by rw [size_str]; simp) (Ev.now _))
  | d + 1, c :: l, hl, hb, hd => by
    have hs : (strOfNums (c :: l)).size = d + 1 := by rw [size_str]; exact hl
    have h0 : bt (strOfNums (c :: l)) 0 = c := by
      have := bt_get (strOfNums (c :: l)) 0
      rw [bytes_str hb] at this
      exact this
    have he : (strOfNums (c :: l)).extract 1 (strOfNums (c :: l)).size = strOfNums l := by
      apply bytesOf_inj
      have hb2 : Bytes l := fun x hx => hb x (List.mem_cons_of_mem _ hx)
      rw [bytesOf_extract, bytes_str hb, bytes_str hb2, List.take_of_length_le (by rw [hs]; omega)]
      rfl
    refine Ev.step (fun k => strings_trimLeftByte.l0.eq_2 _ _ _) (Ev.pos (by omega) (Ev.pos (by omega) ?_))
    rw [h0, he]
    refine Ev.both (fun h => Ev.pos (by omega) ?_) (fun h => Ev.eq (Ev.now _) ?_)
    · subst h
      have ih := trim_go d l (by simpa using hl) (fun x hx => hb x (List.mem_cons_of_mem _ hx)) (by omega)
      have e : trim0 (48 :: l) = trim0 l := by
        unfold trim0
        rw [List.dropWhile_cons_of_pos (by simp)]
      rw [e]
      exact ih
    · unfold trim0
      rw [List.dropWhile_cons_of_neg (by simpa using h)]
theorem hexs_tells (n : Int) (h : U64 n) : Ev (fun k => cursor_Hex.f k n) (strOfNums (hexS n)) := by
  have hb : Bytes (hexL n) := isX_byte (hexL_isX n)
  have htb : Bytes (trim0 (hexL n)) := fun x hx => hb x (trim_mem hx)
  have ht : Ev (fun k => strings_TrimLeft.f k (strOfNums (hexL n)) (⟨#[48]⟩ : ByteArray)) (strOfNums (trim0 (hexL n))) := by
    have e48 : bt (⟨#[48]⟩ : ByteArray) 0 = 48 := rfl
    refine Ev.pos ⟨rfl, by rw [e48]; decide⟩ (Ev.neg ?_ ?_)
    · rw [size_str, hexL_len]
      decide
    · rw [e48]
      have := trim_go 16 (hexL n) (hexL_len n) hb (by decide)
      exact this
  refine Ev.bindc (hex_f n h) (Ev.bind ht ?_)
  unfold hexS
  by_cases e : trim0 (hexL n) = []
  · rw [if_pos e]
    exact Ev.pos (toList_eq_nil.2 (by rw [size_str, e]; rfl)) (Ev.now _)
  · rw [if_neg e]
    refine Ev.neg (fun e2 => e ?_) (Ev.now _)
    have := toList_eq_nil.1 e2
    rw [size_str] at this
    exact List.eq_nil_of_length_eq_zero this
theorem pieceK_str (key : UInt8) (l : List Int) : (⟨#[key, 61]⟩ : ByteArray) ++ strOfNums l = strOfNums (pieceK (key.toNat : Int) l) := by
  have e : (⟨#[key, 61]⟩ : ByteArray) = strOfNums [(key.toNat : Int), 61] := by
    show ByteArray.mk #[key, 61] = ByteArray.mk #[UInt8.ofNat ((key.toNat : Int)).toNat, 61]
    rw [ofNat_nat]
  rw [e, str_append]
  rfl
theorem text_tells (a b c d e f : Int) (ha : U64 a) (hb : U64 b) (hc : U64 c) (hd : U64 d) (he : U64 e) (hf : U64 f) : Ev (fun k => cursor_Cursor_Text.f k a b c d e f) (strOfNums (textL a b c d e f)) := by
  have sz : ∀ l : List Int, l.length ≤ 16 → 2 + (strOfNums l).size ≤ 9223372036854775807 := fun l hl => by rw [size_str]; omega
  have s16 : ∀ n, (hexL n).length ≤ 16 := fun n => by rw [hexL_len]; exact Nat.le_refl _
  refine Ev.bindc (hex_f a ha) (Ev.pos (sz _ (s16 a)) (Ev.bind (hexs_tells b hb) (Ev.pos (sz _ (hexS_len b)) (Ev.bindc (hex_f c hc) (Ev.pos (sz _ (s16 c)) (Ev.bind (hexs_tells d hd) (Ev.pos (sz _ (hexS_len d)) (Ev.bind (hexs_tells e he) (Ev.pos (sz _ (hexS_len e)) (Ev.bind (hexs_tells f hf) (Ev.pos (sz _ (hexS_len f)) ?_)))))))))))
  have hj : strings_Join.f ([(⟨#[115, 61]⟩ : ByteArray) ++ strOfNums (hexL a), (⟨#[105, 61]⟩ : ByteArray) ++ strOfNums (hexS b), (⟨#[98, 61]⟩ : ByteArray) ++ strOfNums (hexL c), (⟨#[109, 61]⟩ : ByteArray) ++ strOfNums (hexS d), (⟨#[116, 61]⟩ : ByteArray) ++ strOfNums (hexS e), (⟨#[120, 61]⟩ : ByteArray) ++ strOfNums (hexS f)] : List ByteArray) (⟨#[59]⟩ : ByteArray) = some (strOfNums (textL a b c d e f)) := by
    rw [pieceK_str 115, pieceK_str 105, pieceK_str 98, pieceK_str 109, pieceK_str 116, pieceK_str 120]
    have e1 : joinL (bytesOf (⟨#[59]⟩ : ByteArray)) [strOfNums (pieceK ((115 : UInt8).toNat : Int) (hexL a)), strOfNums (pieceK ((105 : UInt8).toNat : Int) (hexS b)), strOfNums (pieceK ((98 : UInt8).toNat : Int) (hexL c)), strOfNums (pieceK ((109 : UInt8).toNat : Int) (hexS d)), strOfNums (pieceK ((116 : UInt8).toNat : Int) (hexS e)), strOfNums (pieceK ((120 : UInt8).toNat : Int) (hexS f))] = textL a b c d e f := by
      have b1 : bytesOf (strOfNums (pieceK ((115 : UInt8).toNat : Int) (hexL a))) = pieceK 115 (hexL a) := bytes_str (pieceK_bytes (by decide) (hexL_isX _))
      have b2 : bytesOf (strOfNums (pieceK ((105 : UInt8).toNat : Int) (hexS b))) = pieceK 105 (hexS b) := bytes_str (pieceK_bytes (by decide) (hexS_isX _))
      have b3 : bytesOf (strOfNums (pieceK ((98 : UInt8).toNat : Int) (hexL c))) = pieceK 98 (hexL c) := bytes_str (pieceK_bytes (by decide) (hexL_isX _))
      have b4 : bytesOf (strOfNums (pieceK ((109 : UInt8).toNat : Int) (hexS d))) = pieceK 109 (hexS d) := bytes_str (pieceK_bytes (by decide) (hexS_isX _))
      have b5 : bytesOf (strOfNums (pieceK ((116 : UInt8).toNat : Int) (hexS e))) = pieceK 116 (hexS e) := bytes_str (pieceK_bytes (by decide) (hexS_isX _))
      have b6 : bytesOf (strOfNums (pieceK ((120 : UInt8).toNat : Int) (hexS f))) = pieceK 120 (hexS f) := bytes_str (pieceK_bytes (by decide) (hexS_isX _))
      simp only [joinL]
      rw [b1, b2, b3, b4, b5, b6]
      unfold textL
      simp [bytesOf]
    unfold strings_Join.f
    rw [e1]
    have := textL_len a b c d e f
    exact if_pos ⟨by simp, by omega⟩
  exact Ev.bindc hj (Ev.now _)
theorem wn {i n : Nat} (h : i ≤ n) (hn : n ≤ 100000000) : wrap64 ((i : Int) + 1) = ((i + 1 : Nat) : Int) := by
  rw [w64 (by omega) (by omega)]
  omega
theorem wm {i n : Nat} (h : i ≤ n) (hn : n ≤ 100000000) : wrap64 ((i : Int) + 0) = (i : Int) := by
  rw [w64 (by omega) (by omega)]
  omega
/-! ### strings.Split at a sign -/
def sepZ (z : UInt8) : ByteArray := ⟨#[z]⟩
theorem sep_size (z : UInt8) : (((sepZ z).size : Nat) : Int) = 1 := rfl
theorem wsep {m n : Nat} (z : UInt8) (h : m ≤ n) (hn : n ≤ 100000000) : wrap64 ((m : Int) + (((sepZ z).size : Nat) : Int)) = ((m + 1 : Nat) : Int) := by
  have h1 := sep_size z
  generalize (((sepZ z).size : Nat) : Int) = y at h1 ⊢
  subst h1
  exact wn h hn
theorem lindex_tells (z : UInt8) (s : ByteArray) : stringslite_Index.f s (sepZ z) = some (idxC (z.toNat : Int) (bytesOf s)) := by
  have e : stringslite_Index.f s (sepZ z) = some (Lib.indexByte s.data.toList z) := rfl
  rw [e, idxC_eq]
  rfl
theorem index_tells (z : UInt8) (s : ByteArray) : strings_Index.f s (sepZ z) = some (idxC (z.toNat : Int) (bytesOf s)) := by
  unfold strings_Index.f
  rw [lindex_tells]
  rfl
theorem count_tells (z : UInt8) (s : ByteArray) : strings_Count.f s (sepZ z) = some (((bytesOf s).count (z.toNat : Int) : Nat) : Int) := by
  have e : strings_Count.f s (sepZ z) = some ((Lib.countByte s.data.toList z : Nat) : Int) := rfl
  rw [e, cntC_eq]
  rfl
theorem take_set {α : Type} (l : List α) (i : Nat) (x : α) (h : i < l.length) : (l.set i x).take (i + 1) = l.take i ++ [x] := by
  rw [List.take_succ_eq_append_getElem (by rw [List.length_set]; exact h), List.getElem_set_self]
  congr 1
  rw [List.take_set_of_le (Nat.le_refl _)]
theorem split_go (z : UInt8) (n : Nat) (hn : n ≤ 10000000) : ∀ (d i : Nat) (s : ByteArray) (x9 : List ByteArray), d + i = n → (bytesOf s).count (z.toNat : Int) = d → x9.length = n + 1 → s.size ≤ 10000000 →
    Ev (fun k => strings_genSplit.l0 k s (sepZ z) 0 n x9 i) (x9.take i ++ (cutC (z.toNat : Int) (bytesOf s)).map strOfNums)
  | d, i, s, x9, hd, hc, hx, hs => by
    have b0 : i ≤ n := by omega
    have b3 : n ≤ 100000000 := by omega
    have fin : (bytesOf s).count (z.toNat : Int) = 0 → (x9.set (i : Int).toNat s).take ((i + 1 : Nat) : Int).toNat = x9.take i ++ (cutC (z.toNat : Int) (bytesOf s)).map strOfNums := by
      intro h0
      rw [Int.toNat_natCast, Int.toNat_natCast, take_set _ _ _ (by omega), cutC_none _ _ h0]
      simp [str_bytes]
    refine Ev.step (fun k => strings_genSplit.l0.eq_2 _ _ _ _ _ _ _) ?_
    rw [wn b0 b3]
    match d, hd, hc with
    | 0, hd, hc =>
      refine Ev.neg (by omega) (Ev.pos (by omega) (Ev.pos (by omega) (Ev.pos (by omega) (Ev.pos (by omega) (Ev.eq (Ev.now _) (fin hc))))))
    | d + 1, hd, hc =>
      obtain ⟨m, h1, h2, h3, h4, _, _⟩ := idxC_hit (z.toNat : Int) (bytesOf s) (by omega)
      have hl : (bytesOf s).length = s.size := bytesOf_length s
      have b1 : m ≤ s.size := by omega
      have b2 : s.size ≤ 100000000 := by omega
      refine Ev.pos (by omega) (Ev.bindc (a := (m : Int)) (by rw [index_tells, h1]) ?_)
      rw [wm b1 b2, wsep z b1 b2]
      refine Ev.neg (by omega) (Ev.pos (by omega) (Ev.pos (by omega) (Ev.pos (by omega) (Ev.pos (by omega) (Ev.pos (by omega) (Ev.pos (by omega) ?_))))))
      have e1 : bytesOf (s.extract (m + 1) s.size) = (bytesOf s).drop (m + 1) := by
        rw [bytesOf_extract, List.take_of_length_le (by omega)]
      have hsz : (s.extract (m + 1) s.size).size ≤ 10000000 := by
        rw [ByteArray.size_extract]
        omega
      have ih := split_go z n hn d (i + 1) (s.extract (m + 1) s.size) (x9.set i (s.extract 0 m)) (by omega) (by rw [e1]; omega) (by rw [List.length_set]; exact hx) hsz
      rw [e1, take_set _ _ _ (by omega)] at ih
      rw [Int.toNat_natCast, Int.toNat_natCast, Int.toNat_natCast]
      refine Ev.eq ih ?_
      rw [h3, List.append_assoc]
      congr 1
      show s.extract 0 m :: _ = strOfNums _ :: _
      rw [pieceS s 0 m]
      rfl
theorem split_tells (z : UInt8) (s : ByteArray) (hs : s.size ≤ 10000000) : Ev (fun k => strings_Split.f k s (sepZ z)) ((cutC (z.toNat : Int) (bytesOf s)).map strOfNums) := by
  have hc : (bytesOf s).count (z.toNat : Int) ≤ s.size := by
    rw [← bytesOf_length]
    exact List.count_le_length
  have hn := wn (i := (bytesOf s).count (z.toNat : Int)) (n := s.size) hc (by omega)
  have hs1 := wn (i := s.size) (n := s.size) (Nat.le_refl _) (by omega)
  refine Ev.bind (f := fun k a => some a) (g := fun k => strings_genSplit.f k s (sepZ z) 0 (-1)) ?_ (Ev.now _)
  refine Ev.neg (by decide) (Ev.neg (fun e => by have h1 : (sepZ z).size = 0 := toList_eq_nil.1 e; have h2 : (sepZ z).size = 1 := rfl; omega) (Ev.pos (by decide) (Ev.bindc (count_tells z s) ?_)))
  rw [hn]
  refine Ev.step (fun k => strings_genSplit.j0.eq_2 _ _ _ _ _) ?_
  have hm : mn (((bytesOf s).count (z.toNat : Int) + 1 : Nat) : Int) (wrap64 ((s.size : Int) + 1)) = (((bytesOf s).count (z.toNat : Int) + 1 : Nat) : Int) := by
    rw [hs1]
    unfold mn
    exact if_neg (by omega)
  have h1 : wrap64 ((((bytesOf s).count (z.toNat : Int) + 1 : Nat) : Int) - 1) = (((bytesOf s).count (z.toNat : Int) : Nat) : Int) := by
    rw [w64 (by omega) (by omega)]
    omega
  rw [hm, h1]
  refine Ev.pos (by omega) (Ev.pos (by omega) ?_)
  have := split_go z ((bytesOf s).count (z.toNat : Int)) (by omega) ((bytesOf s).count (z.toNat : Int)) 0 s (List.replicate ((((bytesOf s).count (z.toNat : Int) + 1 : Nat) : Int)).toNat (⟨#[]⟩ : ByteArray)) (by omega) rfl (by rw [List.length_replicate]; omega) hs
  exact this
/-! ### strings.Cut at a sign -/
theorem cut_no (z : UInt8) (s : ByteArray) (h : (bytesOf s).count (z.toNat : Int) = 0) : strings_Cut.f s (sepZ z) = some (s, (⟨#[]⟩ : ByteArray), false) := by
  unfold strings_Cut.f stringslite_Cut.f
  rw [lindex_tells, idxC_miss _ _ h]
  rfl
theorem cut_yes (z : UInt8) (s : ByteArray) (hs : s.size ≤ 10000000) (h : (bytesOf s).count (z.toNat : Int) ≠ 0) : ∃ a b, strings_Cut.f s (sepZ z) = some (strOfNums a, strOfNums b, true) ∧ bytesOf s = a ++ (z.toNat : Int) :: b ∧ (z.toNat : Int) ∉ a := by
  obtain ⟨m, h1, h2, _, _, h5, h6⟩ := idxC_hit (z.toNat : Int) (bytesOf s) h
  have hl : (bytesOf s).length = s.size := bytesOf_length s
  refine ⟨_, _, ?_, h5, h6⟩
  unfold strings_Cut.f stringslite_Cut.f
  have hw := wsep z (m := m) (n := s.size) (by omega) (by omega)
  rw [lindex_tells, h1]
  simp only [Option.bind_some]
  rw [if_pos (by omega), if_pos (by omega), if_pos (by omega), hw, if_pos (by omega), if_pos (by omega)]
  simp only [Option.bind_some]
  rw [Int.toNat_natCast, Int.toNat_natCast, pieceS s 0 m, pieceS s (m + 1) s.size, List.take_of_length_le (i := s.size) (by omega), List.drop_zero]
/-! ### numbers of sixteen digits, and without noughts ahead -/
theorem hexC_yes {c : Int} (h : isX c = true) : hexC c = some (hv c) := by
  have h2 := isX_iff.1 h
  unfold hexC hv
  by_cases g : 48 ≤ c ∧ c ≤ 57
  · rw [if_pos g, if_pos (by omega)]
  · rw [if_neg g, if_pos (by omega), if_neg (by omega)]
theorem hexC_no {c : Int} (h : ¬ isX c = true) : hexC c = none := by
  rw [isX_iff] at h
  unfold hexC
  rw [if_neg (by omega), if_neg (by omega)]
theorem p16le {j : Nat} (h : j ≤ 15) : (16 : Int) ^ j ≤ 16 ^ 15 := by exact_mod_cast Nat.pow_le_pow_right (by decide) h
theorem p15 : (16 : Int) ^ 15 = 1152921504606846976 := by decide
theorem numX_yes : ∀ (l : List Int) (a : Int) (j : Nat), (∀ x ∈ l, isX x = true) → 0 ≤ a → a < 16 ^ j → j + l.length ≤ 16 → numX l a = some (vx a l)
  | [], a, j, _, _, _, _ => rfl
  | c :: r, a, j, h, h0, h1, hl => by
    have hc := hv_in (h c (by simp))
    have hp := p16le (j := j) (by simp at hl; omega)
    rw [p15] at hp
    have e : a * 16 % 18446744073709551616 + hv c = 16 * a + hv c := by omega
    have ih := numX_yes r (16 * a + hv c) (j + 1) (fun x hx => h x (List.mem_cons_of_mem _ hx)) (by omega) (by rw [Int.pow_succ]; omega) (by simp at hl; omega)
    rw [numX, hexC_yes (h c (by simp))]
    show numX r (a * 16 % 18446744073709551616 + hv c) = _
    rw [e, ih]
    rfl
theorem numX_no : ∀ (l : List Int) (a : Int), ¬ (∀ x ∈ l, isX x = true) → numX l a = none
  | [], a, h => absurd (fun x hx => by cases hx) h
  | c :: r, a, h => by
    rw [numX]
    by_cases hc : isX c = true
    · rw [hexC_yes hc]
      refine numX_no r _ (fun h2 => h (fun x hx => ?_))
      rcases List.mem_cons.1 hx with rfl | hx
      · exact hc
      · exact h2 x hx
    · rw [hexC_no hc]
def AllX (l : List Int) : Prop := ∀ x ∈ l, isX x = true
instance (l : List Int) : Decidable (AllX l) := inferInstanceAs (Decidable (∀ x ∈ l, isX x = true))
def nameS (v : ByteArray) : Int × Bool := if v.size = 16 ∧ AllX (bytesOf v) then (vx 0 (bytesOf v), true) else (0, false)
theorem name_tells (v : ByteArray) : name_Number.f v = some (nameS v) := by
  unfold name_Number.f nameS
  by_cases h : v.size = 16
  · rw [if_pos h]
    by_cases g : AllX (bytesOf v)
    · rw [if_pos ⟨h, g⟩, numX_yes (bytesOf v) 0 0 g (by omega) (by decide) (by rw [bytesOf_length]; omega)]
    · rw [if_neg (fun e => g e.2), numX_no (bytesOf v) 0 g]
  · rw [if_neg h, if_neg (fun e => h e.1)]
theorem nameS_yes {n : Int} (h : U64 n) : nameS (strOfNums (hexL n)) = (n, true) := by
  unfold nameS
  have hb : bytesOf (strOfNums (hexL n)) = hexL n := bytes_str (isX_byte (hexL_isX n))
  rw [hb, if_pos ⟨by rw [size_str, hexL_len], hexL_isX n⟩, vx_hexL n h.1 h.2]
theorem nameS_back {v : ByteArray} {n : Int} (h : nameS v = (n, true)) : U64 n ∧ bytesOf v = hexL n := by
  unfold nameS at h
  by_cases g : v.size = 16 ∧ AllX (bytesOf v)
  · rw [if_pos g] at h
    injection h with h _
    obtain ⟨h1, h2, h3⟩ := hexL_vx (bytesOf v) (by rw [bytesOf_length]; exact g.1) g.2
    rw [← h]
    exact ⟨⟨h2, h3⟩, h1.symm⟩
  · rw [if_neg g] at h
    cases h
theorem vx_zeros (m : Nat) (l : List Int) : vx 0 (List.replicate m 48 ++ l) = vx 0 l := by
  induction m with
  | zero => rfl
  | succ m ih =>
    rw [List.replicate_succ, List.cons_append, vx_zero, ih]
def cnumS (v : ByteArray) : Int × Bool := if v.size ≤ 16 ∧ AllX (bytesOf v) then (vx 0 (bytesOf v), (strOfNums (hexS (vx 0 (bytesOf v)))).toList == v.toList) else (0, false)
theorem vx_in (l : List Int) (hl : l.length ≤ 16) (h : AllX l) : U64 (vx 0 l) := by
  have hx : AllX (List.replicate (16 - l.length) 48 ++ l) := by
    intro x hx
    rcases List.mem_append.1 hx with hx | hx
    · rw [List.eq_of_mem_replicate hx]
      rfl
    · exact h x hx
  obtain ⟨_, h2, h3⟩ := hexL_vx (List.replicate (16 - l.length) 48 ++ l) (by rw [List.length_append, List.length_replicate]; omega) hx
  rw [vx_zeros] at h2 h3
  exact ⟨h2, h3⟩
theorem cnum_tells (v : ByteArray) : Ev (fun k => cursor_number.f k v) (cnumS v) := by
  unfold cnumS
  by_cases hs : v.size > 16
  · rw [if_neg (by omega)]
    exact Ev.pos hs (Ev.now _)
  refine Ev.neg hs ?_
  have hr : strings_Repeat.f (⟨#[48]⟩ : ByteArray) (16 - (v.size : Int)) = some (strOfNums (List.replicate (16 - v.size) 48)) := by
    unfold strings_Repeat.f
    rw [if_pos ⟨rfl, by omega, by omega⟩, show (16 - (v.size : Int)).toNat = 16 - v.size by omega]
  refine Ev.bindc hr (Ev.pos (by rw [size_str, List.length_replicate]; omega) ?_)
  have hz : Bytes (List.replicate (16 - v.size) 48) := by
    intro x hx
    rw [List.eq_of_mem_replicate hx]
    omega
  have hb : bytesOf (strOfNums (List.replicate (16 - v.size) 48) ++ v) = List.replicate (16 - v.size) 48 ++ bytesOf v := by
    rw [bytesOf_append, bytes_str hz]
  have hsz : (strOfNums (List.replicate (16 - v.size) 48) ++ v).size = 16 := by
    rw [← bytesOf_length, hb, List.length_append, List.length_replicate, bytesOf_length]
    omega
  refine Ev.bindc (name_tells _) ?_
  unfold nameS
  rw [hb]
  by_cases g : AllX (bytesOf v)
  · have g2 : AllX (List.replicate (16 - v.size) 48 ++ bytesOf v) := by
      intro x hx
      rcases List.mem_append.1 hx with hx | hx
      · rw [List.eq_of_mem_replicate hx]
        rfl
      · exact g x hx
    rw [if_pos ⟨hsz, g2⟩, if_pos ⟨by omega, g⟩, vx_zeros]
    exact Ev.pos rfl (Ev.bind (hexs_tells _ (vx_in _ (by rw [bytesOf_length]; omega) g)) (Ev.now _))
  · rw [if_neg (fun e => g (fun x hx => e.2 x (List.mem_append_right _ hx))), if_neg (fun e => g e.2)]
    exact Ev.neg (by simp) (Ev.now _)
theorem cnumS_yes {n : Int} (h : U64 n) : cnumS (strOfNums (hexS n)) = (n, true) := by
  unfold cnumS
  have hb : bytesOf (strOfNums (hexS n)) = hexS n := bytes_str (isX_byte (hexS_isX n))
  rw [hb, if_pos ⟨by rw [size_str]; exact hexS_len n, hexS_isX n⟩, vx_hexS n h.1 h.2]
  simp
theorem cnumS_back {v : ByteArray} {n : Int} (h : cnumS v = (n, true)) : U64 n ∧ bytesOf v = hexS n := by
  unfold cnumS at h
  by_cases g : v.size ≤ 16 ∧ AllX (bytesOf v)
  · rw [if_pos g] at h
    injection h with h1 h2
    have hu := vx_in (bytesOf v) (by rw [bytesOf_length]; exact g.1) g.2
    rw [h1] at h2 hu
    have e := toList_iff.1 (beq_iff_eq.1 h2)
    rw [bytes_str (isX_byte (hexS_isX n))] at e
    exact ⟨hu, e.symm⟩
  · rw [if_neg g] at h
    cases h
/-! ### the parts of a cursor's text -/
def digs (q : Nat) (n : Int) : List Int := if q = 0 ∨ q = 2 then hexL n else hexS n
def readQ (q : Nat) (v : ByteArray) : Int × Bool := if q = 0 ∨ q = 2 then nameS v else cnumS v
theorem digs_isX (q : Nat) (n : Int) : ∀ x ∈ digs q n, isX x = true := by
  unfold digs
  split
  · exact hexL_isX n
  · exact hexS_isX n
theorem digs_inj {q : Nat} {n m : Int} (hn : U64 n) (hm : U64 m) (h : digs q n = digs q m) : n = m := by
  unfold digs at h
  split at h
  · exact hexL_inj hn hm h
  · exact hexS_inj hn hm h
theorem readQ_tells (q : Nat) (v : ByteArray) : Ev (fun k => curRead k q v) (readQ q v) := by
  unfold readQ
  by_cases h : q = 0 ∨ q = 2
  · rw [if_pos h]
    exact Ev.congr (fun k => by unfold curRead; rw [if_pos h]) (Ev.fix (name_tells v))
  · rw [if_neg h]
    exact Ev.congr (f := fun k => cursor_number.f k v) (fun k => by unfold curRead; rw [if_neg h]) (cnum_tells v)
theorem readQ_yes (q : Nat) {n : Int} (h : U64 n) : readQ q (strOfNums (digs q n)) = (n, true) := by
  unfold readQ digs
  by_cases g : q = 0 ∨ q = 2
  · rw [if_pos g, if_pos g]
    exact nameS_yes h
  · rw [if_neg g, if_neg g]
    exact cnumS_yes h
theorem readQ_back {q : Nat} {v : ByteArray} {n : Int} (h : readQ q v = (n, true)) : U64 n ∧ bytesOf v = digs q n := by
  unfold readQ at h
  unfold digs
  by_cases g : q = 0 ∨ q = 2
  · rw [if_pos g] at h ⊢
    exact nameS_back h
  · rw [if_neg g] at h ⊢
    exact cnumS_back h
def keyAt (q : Nat) : Int := [115, 105, 98, 109, 116, 120].getD q 0
theorem key_ext : ∀ q : Fin 6, (curKeys.extract q.val (q.val + 1)).data = (strOfNums [keyAt q.val]).data := by decide +kernel
theorem key_str (q : Nat) (h : q < 6) : curKeys.extract q (q + 1) = strOfNums [keyAt q] := congrArg ByteArray.mk (key_ext ⟨q, h⟩)
theorem key_in : ∀ q : Fin 6, 0 ≤ keyAt q.val ∧ keyAt q.val ≤ 255 ∧ keyAt q.val ≠ 61 := by decide
def okP : Nat → List ByteArray → List Int → Prop
  | _, [], [] => True
  | q, p :: ps, n :: ns => U64 n ∧ bytesOf p = pieceK (keyAt q) (digs q n) ∧ okP (q + 1) ps ns
  | _, _, _ => False
theorem curGo_tells : ∀ (ps : List ByteArray) (q : Nat), q + ps.length ≤ 6 → (∀ p ∈ ps, p.size ≤ 10000000) → ∃ o, Ev (fun k => curGo k q ps) o ∧ (∀ l, o = some l → okP q ps l) ∧ (∀ l, okP q ps l → o = some l)
  | [], q, _, _ => ⟨some [], Ev.congr (fun k => curGo.eq_1 k q) (Ev.now _), fun l h => by injection h with h; subst h; trivial, fun l h => by
      match l, h with
      | [], _ => rfl⟩
  | p :: ps, q, hl, hs => by
    have hq : q < 6 := by simp at hl; omega
    obtain ⟨k0, k1, k2⟩ := key_in ⟨q, hq⟩
    simp only at k0 k1 k2
    have hps := hs p (by simp)
    have hstop : ∀ c1 c2 c3, strings_Cut.f p (⟨#[61]⟩ : ByteArray) = some (c1, c2, c3) → ¬ (c3 = true ∧ c1.toList = (curKeys.extract q (q + 1)).toList) → Ev (fun k => curGo k q (p :: ps)) none := fun c1 c2 c3 h1 h2 => ⟨0, fun k _ => curGo_stop k p ps q c1 c2 c3 h1 h2⟩
    by_cases hc : (bytesOf p).count (((61 : UInt8).toNat : Nat) : Int) = 0
    · refine ⟨none, hstop _ _ _ (cut_no 61 p hc) (fun h => by cases h.1), fun l h => (by cases h), fun l h => ?_⟩
      match l, h with
      | n :: ns, h =>
        have h2 := h.2.1
        rw [h2] at hc
        exact absurd (List.count_eq_zero.1 hc) (by simp [pieceK])
    obtain ⟨a, b, h1, h2, h3⟩ := cut_yes 61 p hps hc
    have hbp := bytesOf_bytes p
    rw [h2] at hbp
    have ha : Bytes a := fun x hx => hbp x (List.mem_append_left _ hx)
    have hb : Bytes b := fun x hx => hbp x (List.mem_append_right _ (List.mem_cons_of_mem _ hx))
    have hkey : (strOfNums a).toList = (curKeys.extract q (q + 1)).toList ↔ a = [keyAt q] := by
      rw [key_str q hq, toList_iff, bytes_str ha, bytes_str (fun x hx => by rw [List.mem_singleton.1 hx]; exact ⟨k0, k1⟩)]
    have hsplit : ∀ n, bytesOf p = pieceK (keyAt q) (digs q n) → a = [keyAt q] ∧ b = digs q n := by
      intro n hn
      rw [h2] at hn
      have hn' : a ++ 61 :: b = [keyAt q] ++ 61 :: digs q n := hn
      exact app_inj h3 (by simp; omega) hn'
    by_cases hk : a = [keyAt q]
    case neg =>
      refine ⟨none, hstop _ _ _ h1 (fun h => hk (hkey.1 h.2)), fun l h => (by cases h), fun l h => ?_⟩
      match l, h with
      | n :: ns, h => exact absurd (hsplit n h.2.1).1 hk
    have hke := hkey.2 hk
    have hrd := readQ_tells q (strOfNums b)
    obtain ⟨⟨n, bb⟩, hn⟩ : ∃ r, readQ q (strOfNums b) = r := ⟨_, rfl⟩
    rw [hn] at hrd
    cases bb
    · refine ⟨none, ?_, fun l h => (by cases h), fun l h => ?_⟩
      · obtain ⟨K, hK⟩ := hrd
        exact ⟨K, fun k hk2 => curGo_bad k p ps q _ _ n h1 hke (hK k hk2)⟩
      · match l, h with
        | m :: ns, h =>
          have hb2 := (hsplit m h.2.1).2
          have := readQ_yes q h.1
          rw [← hb2, hn] at this
          injection this with _ this
          cases this
    · obtain ⟨o, i1, i2, i3⟩ := curGo_tells ps (q + 1) (by simp at hl; omega) (fun x hx => hs x (List.mem_cons_of_mem _ hx))
      obtain ⟨n1, n2⟩ := readQ_back hn
      rw [bytes_str hb] at n2
      refine ⟨o.map (n :: ·), ?_, fun l h => ?_, fun l h => ?_⟩
      · obtain ⟨K1, hK1⟩ := hrd
        obtain ⟨K2, hK2⟩ := i1
        refine ⟨max K1 K2, fun k hk2 => ?_⟩
        have := curGo_next k p ps q [] (strOfNums a) (strOfNums b) n h1 hke (hK1 k (by omega))
        have hk3 : curGo k (q + 1) ps = some o := hK2 k (by omega)
        rw [hk3] at this
        show curGo k q (p :: ps) = some (o.map (n :: ·))
        cases hcg : curGo k q (p :: ps) with
        | none => rw [hcg] at this; cases this
        | some o2 =>
          rw [hcg] at this
          injection this with this
          rw [show (fun x : List Int => ([] : List Int) ++ x) = id from rfl, Option.map_id] at this
          have this2 : o2 = o.map (n :: ·) := this
          rw [this2]
      · cases o with
        | none => cases h
        | some l2 =>
          injection h with h
          subst h
          exact ⟨n1, by rw [h2, hk, n2]; rfl, i2 l2 rfl⟩
      · match l, h with
        | m :: ns, h =>
          have hb2 := (hsplit m h.2.1).2
          have e : n = m := digs_inj n1 h.1 (by rw [← n2, hb2])
          subst e
          rw [i3 ns h.2.2]
          rfl
theorem joinC_text (a b c d e f : Int) : joinC 59 [pieceK 115 (hexL a), pieceK 105 (hexS b), pieceK 98 (hexL c), pieceK 109 (hexS d), pieceK 116 (hexS e), pieceK 120 (hexS f)] = textL a b c d e f := rfl
theorem cutC_text (a b c d e f : Int) : cutC 59 (textL a b c d e f) = [pieceK 115 (hexL a), pieceK 105 (hexS b), pieceK 98 (hexL c), pieceK 109 (hexS d), pieceK 116 (hexS e), pieceK 120 (hexS f)] := by
  unfold textL
  rw [cutC_app 59 _ _ (no59 (by decide) (hexL_isX _)), cutC_app 59 _ _ (no59 (by decide) (hexS_isX _)), cutC_app 59 _ _ (no59 (by decide) (hexL_isX _)), cutC_app 59 _ _ (no59 (by decide) (hexS_isX _)), cutC_app 59 _ _ (no59 (by decide) (hexS_isX _)), cutC_plain 59 _ (no59 (by decide) (hexS_isX _))]
theorem parts_small (s : ByteArray) (hs : s.size ≤ 10000000) : ∀ p ∈ (cutC 59 (bytesOf s)).map strOfNums, p.size ≤ 10000000 := by
  intro p hp
  obtain ⟨x, hx, rfl⟩ := List.mem_map.1 hp
  have := (cutC_pieces 59 (bytesOf s) x hx).1
  rw [bytesOf_length] at this
  rw [size_str]
  omega
theorem parts_bytes (s : ByteArray) : ((cutC 59 (bytesOf s)).map strOfNums).map bytesOf = cutC 59 (bytesOf s) := by
  rw [List.map_map]
  conv => rhs; rw [← List.map_id (cutC 59 (bytesOf s))]
  exact List.map_congr_left fun p hp => bytes_str ((cutC_pieces 59 (bytesOf s) p hp).2 (bytesOf_bytes s))
def Text6 (s : ByteArray) (a b c d e f : Int) : Prop := U64 a ∧ U64 b ∧ U64 c ∧ U64 d ∧ U64 e ∧ U64 f ∧ bytesOf s = textL a b c d e f
theorem okP_text (s : ByteArray) (a b c d e f : Int) : okP 0 ((cutC 59 (bytesOf s)).map strOfNums) [a, b, c, d, e, f] ↔ Text6 s a b c d e f := by
  constructor
  · intro h
    have hb := parts_bytes s
    have hj := join_cutC 59 (bytesOf s)
    generalize (cutC 59 (bytesOf s)).map strOfNums = ps at h hb
    match ps, h with
    | [p1, p2, p3, p4, p5, p6], ⟨u1, e1, u2, e2, u3, e3, u4, e4, u5, e5, u6, e6, _⟩ =>
      refine ⟨u1, u2, u3, u4, u5, u6, ?_⟩
      rw [← hj, ← hb, ← joinC_text]
      simp only [List.map_cons, List.map_nil]
      rw [e1, e2, e3, e4, e5, e6]
      rfl
  · rintro ⟨u1, u2, u3, u4, u5, u6, h⟩
    rw [h, cutC_text]
    have hb : ∀ key l, 0 ≤ key ∧ key ≤ 255 → AllX l → bytesOf (strOfNums (pieceK key l)) = pieceK key l := fun key l hk hx => bytes_str (pieceK_bytes hk hx)
    exact ⟨u1, hb 115 _ (by decide) (hexL_isX a), u2, hb 105 _ (by decide) (hexS_isX b), u3, hb 98 _ (by decide) (hexL_isX c), u4, hb 109 _ (by decide) (hexS_isX d), u5, hb 116 _ (by decide) (hexS_isX e), u6, hb 120 _ (by decide) (hexS_isX f), trivial⟩
theorem okP_len : ∀ {q : Nat} {ps : List ByteArray} {l : List Int}, okP q ps l → ps.length = l.length
  | _, [], [], _ => rfl
  | q, p :: ps, n :: ns, h => by
    rw [List.length_cons, List.length_cons, okP_len h.2.2]
theorem parse_yes (s : ByteArray) (hs : s.size ≤ 10000000) (a b c d e f : Int) (h : Text6 s a b c d e f) : Ev (fun k => cursor_Parse.f k s) (a, b, c, d, e, f, 0) := by
  have hsp := split_tells 59 s hs
  have hok := (okP_text s a b c d e f).2 h
  have hl := okP_len hok
  obtain ⟨o, h1, _, h3⟩ := curGo_tells _ 0 (by rw [hl]; simp) (parts_small s hs)
  rw [h3 _ hok] at h1
  exact Ev.bind hsp (Ev.pos hl (Ev.bind h1 (Ev.now _)))
theorem parse_no (s : ByteArray) (hs : s.size ≤ 10000000) (h : ∀ a b c d e f, ¬ Text6 s a b c d e f) : Ev (fun k => cursor_Parse.f k s) (0, 0, 0, 0, 0, 0, 28) := by
  have hsp := split_tells 59 s hs
  by_cases hl : ((cutC 59 (bytesOf s)).map strOfNums).length = 6
  case neg => exact Ev.bind hsp (Ev.neg hl (Ev.now _))
  obtain ⟨o, h1, h2, _⟩ := curGo_tells _ 0 (by rw [hl]; omega) (parts_small s hs)
  refine Ev.bind hsp (Ev.pos hl (Ev.bind h1 ?_))
  cases o with
  | none => exact Ev.now _
  | some l =>
    have hok := h2 l rfl
    have hl2 := okP_len hok
    rw [hl] at hl2
    match l, hl2, hok with
    | [a, b, c, d, e, f], _, hok => exact absurd ((okP_text s a b c d e f).1 hok) (h a b c d e f)
end Cu
namespace EW
open Cu
/-! ### names -/
def Good (c : Int) (i : Nat) : Prop := c = 95 ∨ (65 ≤ c ∧ c ≤ 90) ∨ (48 ≤ c ∧ c ≤ 57 ∧ 0 < i)
theorem wi {i n : Nat} (h : i ≤ n) (hn : n ≤ 140737488355328) : wrap64 ((i : Int) + 1) = ((i + 1 : Nat) : Int) := by
  rw [w64 (by omega) (by omega)]
  omega
theorem j1_step (s : ByteArray) (i : Nat) (hi : i < s.size) (hs : s.size ≤ 140737488351232) (R : Bool) (hg : Good (bt s i) i → Ev (fun k => logbookref04_Name.l0 k s ((i + 1 : Nat) : Int)) R) (hb : ¬ Good (bt s i) i → R = false) :
    Ev (fun k => logbookref04_Name.j1 k s i true) R := by
  refine Ev.step (fun k => logbookref04_Name.j1.eq_2 _ _ _ _) (Ev.pos rfl (Ev.pos (by omega) (Ev.pos (by omega) ?_)))
  rw [wi (i := i) (n := s.size) (by omega) (by omega)]
  unfold Good at hg hb
  generalize bt s (i : Int) = c at hg hb ⊢
  by_cases a : 65 ≤ c ∧ c ≤ 90
  · have e := hg (Or.inr (Or.inl a))
    exact Ev.pos a.1 (Ev.pos a.2 (Ev.pos (by omega) e))
  · by_cases u : c = 95
    · have e := hg (Or.inl u)
      exact Ev.both (fun _ => Ev.neg (by omega) (Ev.pos (by omega) (Ev.pos u e))) (fun _ => Ev.pos (by omega) (Ev.pos u e))
    · by_cases d : 48 ≤ c ∧ c ≤ 57
      · refine Ev.neg (by omega) (Ev.pos (by omega) (Ev.neg u (Ev.pos (by omega) ?_)))
        refine Ev.both (fun z => hg (Or.inr (Or.inr ⟨d.1, d.2, by omega⟩))) (fun z => Ev.eq (Ev.now _) (hb (by omega)).symm)
      · have e : false = R := (hb (by omega)).symm
        exact Ev.both (fun _ => Ev.neg (by omega) (Ev.pos (by omega) (Ev.neg u (Ev.neg (by omega) (Ev.eq (Ev.now _) e))))) (fun _ => Ev.both (fun _ => Ev.neg u (Ev.neg (by omega) (Ev.eq (Ev.now _) e))) (fun _ => Ev.neg u (Ev.eq (Ev.now _) e)))
theorem name_long (s : ByteArray) (hs : s.size ≤ 140737488351232) (h : 64 < s.size) : ∀ (d i : Nat), d + i = 65 → Ev (fun k => logbookref04_Name.l0 k s i) false
  | 0, i, hd => by
    refine Ev.step (fun k => logbookref04_Name.l0.eq_2 _ _ _) (Ev.both (fun _ => ?_) (fun _ => ?_))
    · rw [decide_eq_false (show ¬ (i : Int) ≤ 64 by omega)]
      exact Ev.step (fun k => logbookref04_Name.j1.eq_2 _ _ _ _) (Ev.neg (by simp) (Ev.pos (by omega) (Ev.eq (Ev.now _) (decide_eq_false (by omega)))))
    · exact Ev.step (fun k => logbookref04_Name.j1.eq_2 _ _ _ _) (Ev.neg (by simp) (Ev.pos (by omega) (Ev.eq (Ev.now _) (decide_eq_false (by omega)))))
  | d + 1, i, hd => by
    refine Ev.step (fun k => logbookref04_Name.l0.eq_2 _ _ _) (Ev.pos (by omega) ?_)
    rw [decide_eq_true (show (i : Int) ≤ 64 by omega)]
    exact j1_step s i (by omega) hs false (fun _ => name_long s hs h d (i + 1) (by omega)) (fun _ => rfl)
theorem name_short (s : ByteArray) (hs : s.size ≤ 64) (h1 : 1 ≤ s.size) (R : Bool) : ∀ (d i : Nat), d + i = s.size → (R = true → ∀ j, i ≤ j → j < s.size → Good (bt s j) j) → (R = false → ∃ j, i ≤ j ∧ j < s.size ∧ ¬ Good (bt s j) j) → Ev (fun k => logbookref04_Name.l0 k s i) R
  | 0, i, hd, ht, hf => by
    have e : R = true := by
      cases R with
      | true => rfl
      | false =>
        obtain ⟨j, h2, h3, _⟩ := hf rfl
        omega
    refine Ev.step (fun k => logbookref04_Name.l0.eq_2 _ _ _) (Ev.neg (by omega) ?_)
    exact Ev.step (fun k => logbookref04_Name.j1.eq_2 _ _ _ _) (Ev.neg (by simp) (Ev.pos (by omega) (Ev.eq (Ev.now _) (by rw [e]; exact decide_eq_true (by omega)))))
  | d + 1, i, hd, ht, hf => by
    refine Ev.step (fun k => logbookref04_Name.l0.eq_2 _ _ _) (Ev.pos (by omega) ?_)
    rw [decide_eq_true (show (i : Int) ≤ 64 by omega)]
    refine j1_step s i (by omega) (by omega) R (fun hg => ?_) (fun hn => ?_)
    · refine name_short s hs h1 R d (i + 1) (by omega) (fun hr j h2 h3 => ht hr j (by omega) h3) (fun hr => ?_)
      obtain ⟨j, h2, h3, h4⟩ := hf hr
      refine ⟨j, ?_, h3, h4⟩
      rcases Nat.lt_or_ge i j with h | h
      · exact h
      · obtain rfl : j = i := by omega
        exact absurd hg h4
    · cases R with
      | false => rfl
      | true => exact absurd (ht rfl i (Nat.le_refl _) (by omega)) hn
def nameV (s : ByteArray) : Bool := if s.size = 0 then false else if s.size > 64 then false else if 48 ≤ bt s 0 ∧ bt s 0 ≤ 57 then false else (bytesOf s).all nameB
theorem name_f (s : ByteArray) : item_Name.f s = some (nameV s) := by
  unfold item_Name.f nameV
  split
  · rfl
  · split
    · rfl
    · split <;> rfl
theorem nameB_iff (c : Int) : nameB c = true ↔ (c = 95 ∨ (65 ≤ c ∧ c ≤ 90) ∨ (48 ≤ c ∧ c ≤ 57)) := by
  constructor
  · intro h
    apply Decidable.byContradiction
    intro hn
    rw [nameB_no hn] at h
    cases h
  · exact nameB_yes
theorem all_bytes (s : ByteArray) : (bytesOf s).all nameB = true ↔ ∀ j, j < s.size → nameB (bt s (j : Nat)) = true := by
  rw [List.all_eq_true]
  constructor
  · intro h j hj
    have h1 : j < (bytesOf s).length := by rw [bytesOf_length]; exact hj
    have := h _ (List.getElem_mem h1)
    rw [bt_get, List.getD_eq_getElem?_getD, List.getElem?_eq_getElem h1]
    exact this
  · intro h x hx
    obtain ⟨j, hj, rfl⟩ := List.mem_iff_getElem.1 hx
    rw [bytesOf_length] at hj
    have h1 : j < (bytesOf s).length := by rw [bytesOf_length]; exact hj
    have := h j hj
    rw [bt_get, List.getD_eq_getElem?_getD, List.getElem?_eq_getElem h1] at this
    exact this
theorem ref_name (s : ByteArray) (hs : s.size ≤ 140737488351232) : Ev (fun k => logbookref04_Name.f k s) (nameV s) := by
  unfold nameV
  by_cases h0 : s.size = 0
  · rw [if_pos h0]
    exact Ev.step (fun k => logbookref04_Name.l0.eq_2 _ _ _) (Ev.neg (by omega) (Ev.step (fun k => logbookref04_Name.j1.eq_2 _ _ _ _) (Ev.neg (by simp) (Ev.neg (by omega) (Ev.now _)))))
  rw [if_neg h0]
  by_cases h64 : s.size > 64
  · rw [if_pos h64]
    exact name_long s hs h64 65 0 rfl
  rw [if_neg h64]
  by_cases hd : 48 ≤ bt s 0 ∧ bt s 0 ≤ 57
  · rw [if_pos hd]
    refine name_short s (by omega) (by omega) false s.size 0 (by omega) (fun h => by cases h) (fun _ => ⟨0, Nat.le_refl _, by omega, ?_⟩)
    unfold Good
    have e : bt s ((0 : Nat) : Int) = bt s 0 := rfl
    rw [e]
    omega
  · rw [if_neg hd]
    refine name_short s (by omega) (by omega) _ s.size 0 (by omega) (fun h j _ hj => ?_) (fun h => ?_)
    · have h1 := (nameB_iff _).1 ((all_bytes s).1 h j hj)
      unfold Good
      rcases Nat.eq_zero_or_pos j with hz | hz
      · subst hz
        have e : bt s ((0 : Nat) : Int) = bt s 0 := rfl
        rw [e] at h1 ⊢
        omega
      · omega
    · apply Classical.byContradiction
      intro hn
      have : (bytesOf s).all nameB = true := (all_bytes s).2 (fun j hj => by
        rw [nameB_iff]
        have : Good (bt s j) j := Classical.byContradiction fun hx => hn ⟨j, Nat.zero_le _, hj, hx⟩
        unfold Good at this
        omega)
      rw [this] at h
      cases h
/-! ### cuts -/
def idxE : List Int → Int
  | [] => -1
  | b :: l => if b = 61 then 0 else if idxE l = -1 then -1 else idxE l + 1
theorem u61 (b : UInt8) : (b == 61) = decide ((b.toNat : Int) = 61) := by
  by_cases h : b = 61
  · subst h
    rfl
  · rw [beq_false_of_ne h]
    symm
    apply decide_eq_false
    intro e
    apply h
    apply UInt8.toNat_inj.1
    show b.toNat = 61
    omega
theorem idx_eq : ∀ l : List UInt8, Lib.indexByte l 61 = idxE (l.map fun b => (b.toNat : Int))
  | [] => rfl
  | b :: l => by
    rw [List.map_cons, Lib.indexByte, idxE, idx_eq l, u61]
    simp only [decide_eq_true_eq, beq_iff_eq]
theorem idxE_cases : ∀ l : List Int, (idxE l = -1 ∧ ∀ j, j < l.length → l.getD j 0 ≠ 61) ∨ (∃ m : Nat, idxE l = m ∧ m < l.length ∧ l.getD m 0 = 61 ∧ ∀ j, j < m → l.getD j 0 ≠ 61)
  | [] => .inl ⟨rfl, fun j h => by simp at h⟩
  | c :: r => by
    by_cases e : c = 61
    · exact .inr ⟨0, by simp [idxE, e], by simp, by simpa using e, fun j h => by omega⟩
    · rcases idxE_cases r with ⟨h1, h2⟩ | ⟨m, h1, h2, h3, h4⟩
      · refine .inl ⟨by rw [idxE, if_neg e, if_pos h1], fun j hj => ?_⟩
        cases j with
        | zero => simpa using e
        | succ j => simpa using h2 j (by simpa using hj)
      · refine .inr ⟨m + 1, by rw [idxE, if_neg e, h1, if_neg (by omega)]; omega, by simpa using h2, by simpa using h3, fun j hj => ?_⟩
        cases j with
        | zero => simpa using e
        | succ j => simpa using h4 j (by omega)
def eqs : ByteArray := ⟨#[61]⟩
theorem index_tells (s : ByteArray) : stringslite_Index.f s eqs = some (idxE (bytesOf s)) := by
  have e : stringslite_Index.f s eqs = some (Lib.indexByte s.data.toList 61) := rfl
  rw [e, idx_eq]
  rfl
def splitV (s : ByteArray) (m : Nat) : ByteArray × ByteArray × Bool := if nameV (s.extract 0 m) = true then (s.extract 0 m, s.extract (m + 1) s.size, true) else (⟨#[]⟩, ⟨#[]⟩, false)
theorem weq {m n : Nat} (h : m ≤ n) (hn : n ≤ 140737488355328) : wrap64 ((m : Int) + ((eqs.size : Nat) : Int)) = ((m + 1 : Nat) : Int) := by
  have h1 : ((eqs.size : Nat) : Int) = 1 := rfl
  generalize ((eqs.size : Nat) : Int) = z at h1 ⊢
  subst h1
  exact wi h hn
theorem split_hit (s : ByteArray) (hs : s.size ≤ 140737488351232) (m : Nat) (h : idxE (bytesOf s) = m) (hm : m < s.size) : item_Split.f s = some (splitV s m) := by
  have b1 : m ≤ s.size := by omega
  have b2 : s.size ≤ 140737488355328 := by omega
  have e1 : strings_Cut.f s eqs = some (s.extract 0 m, s.extract (m + 1) s.size, true) := by
    unfold strings_Cut.f stringslite_Cut.f
    rw [index_tells, h]
    simp only [Option.bind_some]
    rw [weq b1 b2, if_pos (by omega), if_pos (by omega), if_pos (by omega), if_pos (by omega), if_pos (by omega)]
    rfl
  show (strings_Cut.f s eqs).bind _ = _
  rw [e1]
  simp only [Option.bind_some]
  rw [if_pos trivial, name_f]
  simp only [Option.bind_some]
  unfold splitV
  split <;> rfl
theorem split_miss (s : ByteArray) (h : idxE (bytesOf s) = -1) : item_Split.f s = some (⟨#[]⟩, ⟨#[]⟩, false) := by
  have e1 : strings_Cut.f s eqs = some (s, ⟨#[]⟩, false) := by
    unfold strings_Cut.f stringslite_Cut.f
    rw [index_tells, h]
    rfl
  show (strings_Cut.f s eqs).bind _ = _
  rw [e1]
  rfl
theorem ref_hit (s : ByteArray) (hs : s.size ≤ 140737488351232) (m : Nat) (hm : m < s.size) (he : bt s (m : Nat) = 61) (hn : ∀ j, j < m → bt s (j : Nat) ≠ 61) : ∀ (d i : Nat), d + i = m → Ev (fun k => logbookref04_Split.l0 k s i) (splitV s m)
  | 0, i, hd => by
    obtain rfl : i = m := by omega
    have hsz : (s.extract 0 i).size ≤ 140737488351232 := by
      rw [ByteArray.size_extract]
      omega
    refine Ev.step (fun k => logbookref04_Split.l0.eq_2 _ _ _) ?_
    rw [wi (i := i) (n := s.size) (by omega) (by omega)]
    refine Ev.pos (by omega) (Ev.pos (by omega) (Ev.pos he (Ev.pos (by omega) ?_)))
    rw [Int.toNat_natCast, Int.toNat_natCast]
    refine Ev.bind (ref_name _ hsz) ?_
    unfold splitV
    refine Ev.both (fun h => ?_) (fun h => ?_)
    · rw [if_pos h]
      exact Ev.pos (by omega) (Ev.pos (by omega) (Ev.now _))
    · rw [if_neg h]
      exact Ev.now _
  | d + 1, i, hd => by
    refine Ev.step (fun k => logbookref04_Split.l0.eq_2 _ _ _) (Ev.pos (by omega) (Ev.pos (by omega) (Ev.neg (hn i (by omega)) ?_)))
    rw [wi (i := i) (n := s.size) (by omega) (by omega)]
    exact ref_hit s hs m hm he hn d (i + 1) (by omega)
theorem ref_miss (s : ByteArray) (hs : s.size ≤ 140737488351232) (hn : ∀ j, j < s.size → bt s (j : Nat) ≠ 61) : ∀ (d i : Nat), d + i = s.size → Ev (fun k => logbookref04_Split.l0 k s i) (⟨#[]⟩, ⟨#[]⟩, false)
  | 0, i, hd => Ev.step (fun k => logbookref04_Split.l0.eq_2 _ _ _) (Ev.neg (by omega) (Ev.now _))
  | d + 1, i, hd => by
    refine Ev.step (fun k => logbookref04_Split.l0.eq_2 _ _ _) (Ev.pos (by omega) (Ev.pos (by omega) (Ev.neg (hn i (by omega)) ?_)))
    rw [wi (i := i) (n := s.size) (by omega) (by omega)]
    exact ref_miss s hs hn d (i + 1) (by omega)
theorem split_tells (s : ByteArray) (hs : s.size ≤ 140737488351232) : ∃ v, item_Split.f s = some v ∧ Ev (fun k => logbookref04_Split.f k s) v := by
  rcases idxE_cases (bytesOf s) with ⟨h1, h2⟩ | ⟨m, h1, h2, h3, h4⟩
  · refine ⟨_, split_miss s h1, ?_⟩
    exact ref_miss s hs (fun j hj => by rw [bt_get]; exact h2 j (by rw [bytesOf_length]; exact hj)) s.size 0 (by omega)
  · rw [bytesOf_length] at h2
    refine ⟨_, split_hit s hs m h1 h2, ?_⟩
    exact ref_hit s hs m h2 (by rw [bt_get]; exact h3) (fun j hj => by rw [bt_get]; exact h4 j hj) m 0 (by omega)
theorem printB_iff (c : Int) : printB c = true ↔ ¬ ((c < 32 ∧ c ≠ 9) ∨ c = 127) := by
  unfold printB
  simp
  omega
theorem le_tells (n : Int) (h0 : 0 ≤ n) (h1 : n ≤ 18446744073709551615) : le_Bytes.f n 8 = some (leGo 8 n) := if_pos ⟨h0, h1⟩
theorem le_size (n : Int) : (strOfNums (leGo 8 n)).size = 8 := by
  rw [strOfNums_size, leGo_len]
namespace Num
theorem w8 {n : Int} (h0 : 0 ≤ n) (h : n < 10) : IntKind.u64.wrap (48 + n) % 256 = 48 + n := by
  rw [wu64 (by omega) (by omega)]
  omega
theorem div10 {n : Int} (h0 : 0 ≤ n) (h1 : n ≤ 18446744073709551615) : IntKind.u64.wrap (Int.tdiv n 10) = n / 10 := by
  rw [Int.tdiv_eq_ediv_of_nonneg h0, wu64 (by omega) (by omega)]
theorem mod10 {n : Int} (h0 : 0 ≤ n) : IntKind.u64.wrap (48 + Int.tmod n 10) % 256 = 48 + n % 10 := by
  rw [Int.tmod_eq_emod_of_nonneg h0]
  exact w8 (by omega) (by omega)
theorem small_div {n m : Int} (h0 : 0 ≤ n) (h1 : n ≤ m) : 0 ≤ n / 10 ∧ n / 10 ≤ m := by omega
theorem dec_tells : ∀ (d : Nat) (n : Int), d ≤ 20 → 0 ≤ n → n ≤ 18446744073709551615 → n < 10 ^ (d + 1) → Ev (fun k => export_Decimal.f k n) (strOfNums (decF (d + 1) n))
  | d, n, hd, h0, h1, hn => by
    refine Ev.step (fun k => export_Decimal.f.eq_2 _ _) ?_
    by_cases h : n < 10
    · refine Ev.pos h ?_
      rw [w8 h0 h, decF_small h]
      exact Ev.now _
    · refine Ev.neg h ?_
      rw [decF_big h, div10 h0 h1, mod10 h0]
      match d, hn with
      | 0, hn =>
        simp at hn
        exact absurd hn h
      | d + 1, hn =>
        have hs := small_div h0 h1
        refine Ev.bind (dec_tells d (n / 10) (by omega) hs.1 hs.2 (pow_lt hn)) (Ev.bindc rfl (Ev.pos ?_ ?_))
        · rw [size_str, size_str]
          have := decF_len (d + 1) (n / 10)
          simp
          omega
        · rw [str_append]
          exact Ev.now _
theorem lt20 {n : Int} (h1 : n ≤ 18446744073709551615) : n < 10 ^ (19 + 1) := by
  have : (10 : Int) ^ (19 + 1) = 100000000000000000000 := by decide
  omega
def dec (n : Int) : List Int := decF 20 n
theorem decimal_tells (n : Int) (h0 : 0 ≤ n) (h1 : n ≤ 18446744073709551615) : Ev (fun k => export_Decimal.f k n) (strOfNums (dec n)) := dec_tells 19 n (by omega) h0 h1 (lt20 h1)

theorem numGo_append : ∀ (l r : List Int) (a : Int), numGo (l ++ r) a = (numGo l a).bind fun b => numGo r b
  | [], r, a => rfl
  | c :: l, r, a => by
    simp only [List.cons_append, numGo]
    split
    · rfl
    · split
      · rfl
      · exact numGo_append l r _
theorem numGo_dec : ∀ (d : Nat) (n : Int), 0 ≤ n → n ≤ 18446744073709551615 → n < 10 ^ (d + 1) → numGo (decF (d + 1) n) 0 = some n
  | d, n, h0, h1, hn => by
    by_cases h : n < 10
    · rw [decF_small h, numGo_go (by omega) (by omega) (by omega)]
      simp only [numGo]
      congr 1
      omega
    · match d, hn with
      | 0, hn =>
        simp at hn
        exact absurd hn h
      | d + 1, hn =>
        have hs := small_div h0 h1
        rw [decF_big h, numGo_append, numGo_dec d (n / 10) hs.1 hs.2 (pow_lt hn)]
        show numGo [48 + n % 10] (n / 10) = some n
        rw [numGo_go (by omega) (by omega) (by omega)]
        simp only [numGo]
        congr 1
        omega
theorem numGo_tells : ∀ (l : List Int) (a b : Int), numGo l a = some b → 0 ≤ a → a ≤ 18446744073709551615 → Digits l ∧ b = valF a l ∧ 0 ≤ b ∧ b ≤ 18446744073709551615
  | [], a, b, h, h0, h1 => by
    injection h with h
    subst h
    exact ⟨fun x hx => absurd hx (by simp), rfl, h0, h1⟩
  | c :: l, a, b, h, h0, h1 => by
    simp only [numGo] at h
    split at h
    · cases h
    · split at h
      · cases h
      · rename_i g1 g2
        obtain ⟨p, q, r, s⟩ := numGo_tells l _ b h (by omega) (by omega)
        refine ⟨fun x hx => ?_, q, r, s⟩
        rcases List.mem_cons.1 hx with rfl | hx
        · omega
        · exact p x hx
theorem dec_of_numGo {l : List Int} {b : Int} (h : numGo l 0 = some b) (hne : l ≠ []) (hl : l.length ≤ 20) (hz : ∀ c r, l = c :: r → c = 48 → r = []) : dec b = l := by
  obtain ⟨h1, h2, _, _⟩ := numGo_tells l 0 b h (by omega) (by omega)
  rw [h2]
  exact dec_valF 20 l hl hne h1 hz
theorem dec_facts (n : Int) (h0 : 0 ≤ n) (h1 : n ≤ 18446744073709551615) : dec n ≠ [] ∧ (dec n).length ≤ 20 ∧ (∀ c r, dec n = c :: r → c = 48 → r = []) ∧ Bytes (dec n) := by
  refine ⟨decF_ne 19 n, decF_len 20 n, fun c r e hc => ?_, decF_Bytes 20 n h0⟩
  by_cases hz : n < 1
  · have : dec n = [48 + n] := decF_small (by omega)
    rw [this] at e
    injection e with _ e
    exact e.symm
  · obtain ⟨c', r', e', hc'⟩ := decF_head 20 n (by omega) (lt20 h1)
    have e2 : c' :: r' = c :: r := e'.symm.trans e
    injection e2 with e3 _
    exact absurd (e3.trans hc) hc'
/-- What the program reads. -/
theorem number_yes (n : Int) (h0 : 0 ≤ n) (h1 : n ≤ 18446744073709551615) : export_Number.f (strOfNums (dec n)) = some (n, true) := by
  obtain ⟨f1, f2, f3, f4⟩ := dec_facts n h0 h1
  unfold export_Number.f
  have hs := size_str (dec n)
  rw [if_neg (by rw [hs]; exact fun e => f1 (List.eq_nil_of_length_eq_zero e)), if_neg (by rw [hs]; omega), if_neg, bytes_str f4]
  · rw [show numGo (dec n) 0 = some n from numGo_dec 19 n h0 h1 (lt20 h1)]
  · rintro ⟨e1, e2⟩
    rw [hs] at e2
    have e3 : bt (strOfNums (dec n)) ((0 : Nat) : Int) = (dec n).getD 0 0 := by rw [bt_get, bytes_str f4]
    match hh : dec n, f1 with
    | c :: r, _ =>
      rw [hh] at e2 e3
      have := f3 c r hh (by
        rw [← hh] at e3
        rw [hh] at e3
        have e4 : bt (strOfNums (c :: r)) 0 = c := by simpa [hh] using e3
        rw [hh] at e1
        rw [← e1]
        exact e4.symm)
      rw [this] at e2
      simp at e2
theorem number_no (s : ByteArray) (h : ∀ n, 0 ≤ n → n ≤ 18446744073709551615 → dec n ≠ bytesOf s) : export_Number.f s = some (0, false) := by
  unfold export_Number.f
  split
  · rfl
  · rename_i g1
    split
    · rfl
    · rename_i g2
      split
      · rfl
      · rename_i g3
        cases hh : numGo (bytesOf s) 0 with
        | none => rfl
        | some b =>
          obtain ⟨_, _, b0, b1⟩ := numGo_tells _ 0 b hh (by omega) (by omega)
          refine absurd (dec_of_numGo hh (bytesOf_cons_size g1) (by rw [bytesOf_length]; omega) (fun c r e hc => ?_)) (h b b0 b1)
          have e1 : bt s ((0 : Nat) : Int) = c := by rw [bt_get, e]; rfl
          match r, e with
          | [], _ => rfl
          | x :: r, e =>
            refine absurd ⟨?_, ?_⟩ g3
            · exact e1.trans hc
            · rw [← bytesOf_length, e]
              simp

end Num
end EW
namespace RB
open Cu EW
theorem two_bytes {s : ByteArray} {l r : List Int} {c : Int} (h : bytesOf s = l ++ c :: r) : Bytes l ∧ Bytes r ∧ (0 ≤ c ∧ c ≤ 255) := by
  have hb := bytesOf_bytes s
  rw [h] at hb
  exact ⟨fun x hx => hb x (by simp [hx]), fun x hx => hb x (by simp [hx]), hb c (by simp)⟩
theorem two_size {s : ByteArray} {l r : List Int} {c : Int} (h : bytesOf s = l ++ c :: r) : s.size = l.length + 1 + r.length := by
  rw [← bytesOf_length, h, List.length_append, List.length_cons]
  omega
theorem nil_str (l : List Int) (hl : l ≠ []) : ¬ ((strOfNums l).toList == ([] : List UInt8)) = true := by
  intro h
  have h2 := toList_eq_nil.1 (eq_of_beq h)
  rw [size_str] at h2
  exact hl (List.eq_nil_of_length_eq_zero h2)
theorem sep10 : (⟨#[10]⟩ : ByteArray) = sepZ 10 := rfl
theorem sep61 : (⟨#[61]⟩ : ByteArray) = sepZ 61 := rfl
theorem line_no (s : ByteArray) (h : (10 : Int) ∉ bytesOf s) : export_line.f s = some (s, (⟨#[]⟩ : ByteArray), false) := by
  unfold export_line.f
  rw [sep10, cut_no 10 s (List.count_eq_zero.2 h)]
  rfl
theorem cut_at (z : UInt8) (s : ByteArray) (hs : s.size ≤ 10000000) (a b : List Int) (h : bytesOf s = a ++ (z.toNat : Int) :: b) (ha : (z.toNat : Int) ∉ a) : strings_Cut.f s (sepZ z) = some (strOfNums a, strOfNums b, true) := by
  obtain ⟨a', b', h1, h2, h3⟩ := cut_yes z s hs (by
    rw [h]
    exact Nat.pos_iff_ne_zero.1 (List.count_pos_iff.2 (by simp)))
  obtain ⟨e1, e2⟩ := app_inj h3 ha (h2.symm.trans h)
  rw [h1, e1, e2]
theorem line_at (s : ByteArray) (hs : s.size ≤ 10000000) (l r : List Int) (h : bytesOf s = l ++ 10 :: r) (hl : (10 : Int) ∉ l) : export_line.f s = some (strOfNums l, strOfNums r, true) := by
  unfold export_line.f
  rw [sep10, cut_at 10 s hs l r h hl]
  rfl
theorem mem_split {c : Int} : ∀ (l : List Int), c ∈ l → ∃ a b, l = a ++ c :: b ∧ c ∉ a
  | [], h => absurd h (by simp)
  | x :: l, h => by
    by_cases hx : x = c
    · exact ⟨[], l, by rw [hx]; rfl, by simp⟩
    · obtain ⟨a, b, h1, h2⟩ := mem_split l (by
        rcases List.mem_cons.1 h with h | h
        · exact absurd h.symm hx
        · exact h)
      exact ⟨x :: a, b, by rw [h1]; rfl, by
        intro h
        rcases List.mem_cons.1 h with h | h
        · exact hx h.symm
        · exact h2 h⟩
def leV : List Int → Int
  | [] => 0
  | b :: r => b + 256 * leV r
theorem leV_snoc : ∀ (l : List Int) (b : Int), leV (l ++ [b]) = leV l + 256 ^ l.length * b
  | [], b => by simp [leV]
  | x :: l, b => by
    rw [List.cons_append, leV, leV_snoc l b, leV, List.length_cons, Int.pow_succ, Int.mul_add, Int.add_assoc, ← Int.mul_assoc, Int.mul_comm 256 (256 ^ l.length)]
theorem leV_in : ∀ (l : List Int), Bytes l → 0 ≤ leV l ∧ leV l < 256 ^ l.length
  | [], _ => by simp [leV]
  | x :: l, h => by
    have hx := h x (by simp)
    have ih := leV_in l (fun y hy => h y (by simp [hy]))
    rw [leV, List.length_cons, Int.pow_succ]
    omega
theorem p64 : (256 : Int) ^ 8 = 18446744073709551616 := by decide
theorem p256 (i : Nat) (h : i ≤ 7) : (256 : Int) ^ i ≤ 72057594037927936 := by
  obtain rfl | rfl | rfl | rfl | rfl | rfl | rfl | rfl : i = 0 ∨ i = 1 ∨ i = 2 ∨ i = 3 ∨ i = 4 ∨ i = 5 ∨ i = 6 ∨ i = 7 := by omega
  all_goals decide
theorem leV_u64 {l : List Int} (h : Bytes l) (hl : l.length = 8) : 0 ≤ leV l ∧ leV l ≤ 18446744073709551615 := by
  have := leV_in l h
  rw [hl, p64] at this
  omega
theorem le_or (m d : Int) (h0 : 0 ≤ d) (h1 : d < 256) : bits .or .u64 (IntKind.u64.wrap (m * 256)) d = m * 256 % 18446744073709551616 + d := by
  rw [IntKind.wrap_u64]
  exact bits_join .u64 64 (by decide) wraps_u64 8 _ d (Int.emod_nonneg _ (by decide)) (by omega) (Int.emod_lt_of_pos _ (by decide)) h0 (by omega) (by omega)
theorem rd_at (L : List Int) (j : Nat) (hj : j < L.length) : L.drop j = rd L (j : Int) :: L.drop (j + 1) := by
  rw [List.drop_eq_getElem_cons hj]
  congr 1
  unfold rd
  rw [Int.toNat_natCast, List.getD_eq_getElem?_getD, List.getElem?_eq_getElem hj]
  rfl
theorem le_go (L : List Int) (hL : L.length = 8) (hB : Bytes L) : ∀ j : Nat, j ≤ 8 → Ev (fun k => le_Get.l0 k L 0 (leV (L.drop j)) ((j : Int) - 1)) (leV L, true)
  | 0, _ => Ev.step (fun k => le_Get.l0.eq_2 _ _ _ _ _) (Ev.neg (by omega) (Ev.now _))
  | j + 1, hj => by
    have ih := le_go L hL hB j (by omega)
    have hd := rd_at L j (by omega)
    have hw : wrap64 (0 + (((j + 1 : Nat) : Int) - 1)) = (j : Int) := by
      unfold wrap64
      omega
    have hx := hB (rd L (j : Int)) (List.mem_of_mem_drop (i := j) (by rw [hd]; simp))
    have hq := leV_in (L.drop (j + 1)) (fun y hy => hB y (List.mem_of_mem_drop hy))
    rw [List.length_drop, hL] at hq
    have hp := p256 (8 - (j + 1)) (by omega)
    refine Ev.step (fun k => le_Get.l0.eq_2 _ _ _ _ _) (Ev.pos (by omega) ?_)
    rw [hw]
    refine Ev.pos (by omega) (Ev.pos (by omega) ?_)
    rw [wu64 hx.1 (by omega), le_or _ _ hx.1 (by omega), show wrap64 (((j + 1 : Nat) : Int) - 1 - 1) = (j : Int) - 1 by unfold wrap64; omega]
    rw [hd, leV] at ih
    rw [show leV (L.drop (j + 1)) * 256 % 18446744073709551616 + rd L (j : Int) = rd L (j : Int) + 256 * leV (L.drop (j + 1)) by omega]
    exact ih
theorem gets_full (s : ByteArray) (hs : s.size = 8) : Ev (fun k => getS.f k s) (leV (bytesOf s), true) := by
  have hl : (bytesOf s).length = 8 := by rw [bytesOf_length]; exact hs
  have h := le_go (bytesOf s) hl (bytesOf_bytes s) 8 (Nat.le_refl _)
  rw [List.drop_of_length_le (by omega)] at h
  have hf : le_fits.f (bytesOf s) 0 8 = some true := by
    unfold le_fits.f
    rw [if_neg (by decide), if_neg (by decide), if_neg (by decide), if_pos rfl, if_pos (by decide), if_pos (by omega), hl]
    exact congrArg some (decide_eq_true (by unfold wrap64; omega))
  have e : ∀ k, getS.f k s = le_Get.l0 k (bytesOf s) 0 (leV []) (((8 : Nat) : Int) - 1) := fun k => by
    unfold getS.f le_Get.f
    rw [hf, Option.bind_some, if_pos rfl, show wrap64 ((8 : Int) - 1) = ((8 : Nat) : Int) - 1 by unfold wrap64; omega]
    rfl
  exact Ev.congr e h
theorem gets_short (s : ByteArray) (hs : s.size < 8) : Ev (fun k => getS.f k s) (0, false) := by
  have hl := bytesOf_length s
  have hf : le_fits.f (bytesOf s) 0 8 = some false := by
    unfold le_fits.f
    rw [if_neg (by decide), if_neg (by decide), if_neg (by decide), if_pos rfl, if_pos (by decide), if_pos (by omega)]
    exact congrArg some (decide_eq_false (by unfold wrap64; omega))
  have e : ∀ k, getS.f k s = some (0, false) := fun k => by
    unfold getS.f le_Get.f
    rw [hf]
    rfl
  exact Ev.congr e (Ev.now _)
theorem leGo_leV {W : List Int} (hW : W.length = 8) (hB : Bytes W) : leGo 8 (leV W) = W := by
  match W, hW with
  | [a, b, c, d, e, f, g, h], _ =>
    have ha := hB a (by simp)
    have hb := hB b (by simp)
    have hc := hB c (by simp)
    have hd := hB d (by simp)
    have he := hB e (by simp)
    have hf := hB f (by simp)
    have hg := hB g (by simp)
    have hh := hB h (by simp)
    simp only [leGo, leV, List.nil_append, List.cons_append]
    simp only [List.cons.injEq, and_true]
    refine ⟨?_, ?_, ?_, ?_, ?_, ?_, ?_, ?_⟩ <;> omega

theorem printable_f (l : List Int) (h : Bytes l) (hl : l.length ≤ 10000000) : export_printable.f (strOfNums l) = some (l.all printB) := by
  unfold export_printable.f
  rw [if_pos (by rw [size_str]; omega), bytes_str h]
abbrev E0 : ByteArray := ⟨#[]⟩
theorem field_no (s : ByteArray) (h : (10 : Int) ∉ bytesOf s) : Ev (fun k => export_field.f k s) (E0, E0, E0, false) :=
  Ev.bindc (line_no s h) (Ev.neg (by simp) (Ev.step (fun k => export_field.j0.eq_2 _ _ _ _) (Ev.pos rfl (Ev.now _))))
theorem field_empty (s : ByteArray) (hs : s.size ≤ 10000000) (r : List Int) (h : bytesOf s = [] ++ 10 :: r) : Ev (fun k => export_field.f k s) (E0, E0, E0, false) :=
  Ev.bindc (line_at s hs [] r h (by simp)) (Ev.pos rfl (Ev.step (fun k => export_field.j0.eq_2 _ _ _ _) (Ev.pos (show ((strOfNums []).toList == ([] : List UInt8)) = true from beq_iff_eq.2 (toList_eq_nil.2 (size_str []))) (Ev.now _))))
theorem not61 {a v : List Int} (h : (10 : Int) ∉ a ++ 61 :: v) : (10 : Int) ∉ a ∧ (10 : Int) ∉ v := ⟨fun g => h (by simp [g]), fun g => h (by simp [g])⟩
theorem field_eq (s : ByteArray) (hs : s.size ≤ 10000000) (a v r : List Int) (h : bytesOf s = (a ++ 61 :: v) ++ 10 :: r) (h10 : (10 : Int) ∉ a ++ 61 :: v) (h61 : (61 : Int) ∉ a) : Ev (fun k => export_field.f k s) (strOfNums a, strOfNums v, strOfNums r, v.all printB) := by
  obtain ⟨hb, hr, _⟩ := two_bytes h
  have hz := two_size h
  rw [List.length_append, List.length_cons] at hz
  have hv : Bytes v := fun x hx => hb x (by simp [hx])
  have hc := cut_at 61 (strOfNums (a ++ 61 :: v)) (by rw [size_str, List.length_append, List.length_cons]; omega) a v (bytes_str hb) h61
  refine Ev.bindc (line_at s hs _ r h h10) (Ev.pos rfl (Ev.step (fun k => export_field.j0.eq_2 _ _ _ _) (Ev.neg (nil_str _ (by simp)) ?_)))
  rw [sep61]
  exact Ev.bindc hc (Ev.pos rfl (Ev.bindc (printable_f v hv (by omega)) (Ev.now _)))
theorem mn8 {n : Nat} (h : 8 ≤ n) : mn 8 (n : Int) = ((8 : Nat) : Int) := by
  unfold mn
  split <;> omega
theorem mn8s {n : Nat} (h : n < 8) : mn 8 (n : Int) = (n : Int) := by
  unfold mn
  split <;> omega
theorem take8 {r : List Int} (hr : Bytes r) (j : Nat) : bytesOf ((strOfNums r).extract 0 j) = r.take j := by
  rw [bytesOf_extract, bytes_str hr, List.drop_zero]
/-- What is read of a text in eight bytes of length and so many bytes: a field's name ahead of them. -/
def binOk (r : List Int) : Prop := 8 ≤ r.length ∧ leV (r.take 8) ≤ 1024 ∧ 8 + (leV (r.take 8)).toNat < r.length ∧ r.getD (8 + (leV (r.take 8)).toNat) 0 = 10
theorem field_bin (s : ByteArray) (hs : s.size ≤ 10000000) (l r : List Int) (h : bytesOf s = l ++ 10 :: r) (h10 : (10 : Int) ∉ l) (h61 : (61 : Int) ∉ l) (hne : l ≠ []) :
    (binOk r ∧ Ev (fun k => export_field.f k s) (strOfNums l, strOfNums ((r.drop 8).take (leV (r.take 8)).toNat), strOfNums (r.drop (9 + (leV (r.take 8)).toNat)), !(((r.drop 8).take (leV (r.take 8)).toNat).all printB))) ∨ (¬ binOk r ∧ Ev (fun k => export_field.f k s) (E0, E0, E0, false)) := by
  obtain ⟨hb, hr, _⟩ := two_bytes h
  have hz := two_size h
  have hrz : (strOfNums r).size = r.length := size_str r
  have hc : strings_Cut.f (strOfNums l) (⟨#[61]⟩ : ByteArray) = some (strOfNums l, E0, false) := by
    rw [sep61]
    exact cut_no 61 (strOfNums l) (by rw [bytes_str hb]; exact List.count_eq_zero.2 h61)
  have pre : ∀ (out : ByteArray × ByteArray × ByteArray × Bool), Ev (fun k => if 0 ≤ mn 8 ((strOfNums r).size : Int) then (if (mn 8 ((strOfNums r).size : Int)) ≤ ((strOfNums r).size : Int) then ((getS.f k ((strOfNums r).extract 0 ((mn 8 ((strOfNums r).size : Int)) : Int).toNat)).bind fun bt165 => (if bt165.2 = true then (if bt165.1 > 1024 then (some ((⟨#[]⟩ : ByteArray), (⟨#[]⟩ : ByteArray), (⟨#[]⟩ : ByteArray), false)) else (if (IntKind.u64.wrap (wrap64 (((strOfNums r).size : Int) - 8))) ≤ bt165.1 then (some ((⟨#[]⟩ : ByteArray), (⟨#[]⟩ : ByteArray), (⟨#[]⟩ : ByteArray), false)) else (if 0 ≤ (IntKind.u64.wrap (8 + bt165.1)) then (if (IntKind.u64.wrap (8 + bt165.1)) < ((strOfNums r).size : Int) then (if (bt (strOfNums r) (IntKind.u64.wrap (8 + bt165.1))) = 10 then (if 8 ≤ (IntKind.u64.wrap (8 + bt165.1)) then (if (IntKind.u64.wrap (8 + bt165.1)) ≤ ((strOfNums r).size : Int) then (if 0 ≤ (IntKind.u64.wrap (9 + bt165.1)) then (if (IntKind.u64.wrap (9 + bt165.1)) ≤ ((strOfNums r).size : Int) then ((export_printable.f ((strOfNums r).extract 8 ((IntKind.u64.wrap (8 + bt165.1)) : Int).toNat)).bind fun t167 => (some (strOfNums l, (strOfNums r).extract 8 ((IntKind.u64.wrap (8 + bt165.1)) : Int).toNat, (strOfNums r).extract ((IntKind.u64.wrap (9 + bt165.1)) : Int).toNat (strOfNums r).size, !t167))) else (none)) else (none)) else (none)) else (none)) else (some ((⟨#[]⟩ : ByteArray), (⟨#[]⟩ : ByteArray), (⟨#[]⟩ : ByteArray), false))) else (none)) else (none)))) else (some ((⟨#[]⟩ : ByteArray), (⟨#[]⟩ : ByteArray), (⟨#[]⟩ : ByteArray), false)))) else (none)) else (none)) out → Ev (fun k => export_field.f k s) out := fun out ho =>
    Ev.bindc (line_at s hs l r h h10) (Ev.pos rfl (Ev.step (fun k => export_field.j0.eq_2 _ _ _ _) (Ev.neg (nil_str _ hne) (Ev.bindc hc (Ev.neg (by simp) ho)))))
  by_cases h8 : 8 ≤ r.length
  · rw [hrz, mn8 h8] at pre
    have hq : bytesOf ((strOfNums r).extract 0 8) = r.take 8 := take8 hr 8
    have hg := gets_full ((strOfNums r).extract 0 8) (by rw [← bytesOf_length, hq, List.length_take]; omega)
    rw [hq] at hg
    have hu := leV_u64 (l := r.take 8) (fun x hx => hr x (List.mem_of_mem_take hx)) (by rw [List.length_take]; omega)
    by_cases hn : leV (r.take 8) ≤ 1024
    · obtain ⟨n, hnn⟩ := Int.eq_ofNat_of_zero_le hu.1
      unfold binOk
      rw [hnn] at hg hn ⊢
      rw [Int.toNat_natCast]
      have w1 : IntKind.u64.wrap (wrap64 ((r.length : Int) - 8)) = (r.length : Int) - 8 := by
        rw [w64 (by omega) (by omega), wu64 (by omega) (by omega)]
      have w2 : IntKind.u64.wrap (8 + (n : Int)) = ((8 + n : Nat) : Int) := by
        rw [wu64 (by omega) (by omega)]
        omega
      have w3 : IntKind.u64.wrap (9 + (n : Int)) = ((9 + n : Nat) : Int) := by
        rw [wu64 (by omega) (by omega)]
        omega
      by_cases h9 : 8 + n < r.length
      · have hbt : bt (strOfNums r) ((8 + n : Nat) : Int) = r.getD (8 + n) 0 := by rw [bt_get, bytes_str hr]
        by_cases he : r.getD (8 + n) 0 = 10
        · refine .inl ⟨⟨h8, hn, h9, he⟩, pre _ (Ev.pos (by omega) (Ev.pos (by omega) (Ev.bind hg (Ev.pos rfl (Ev.neg (by omega) ?_)))))⟩
          rw [w1, w2, w3, hbt]
          have hx : (strOfNums r).extract 8 (((8 + n : Nat) : Int)).toNat = strOfNums ((r.drop 8).take n) := by
            rw [Int.toNat_natCast]
            apply bytesOf_inj
            rw [bytesOf_extract, bytes_str hr, bytes_str (fun x hx => hr x (List.mem_of_mem_drop (List.mem_of_mem_take hx))), List.drop_take]
            congr 1
            omega
          have hy : (strOfNums r).extract (((9 + n : Nat) : Int)).toNat r.length = strOfNums (r.drop (9 + n)) := by
            rw [Int.toNat_natCast]
            apply bytesOf_inj
            rw [bytesOf_extract, bytes_str hr, bytes_str (fun x hx => hr x (List.mem_of_mem_drop hx)), List.take_of_length_le (Nat.le_refl _)]
          rw [hx, hy]
          exact Ev.neg (by omega) (Ev.pos (by omega) (Ev.pos (by omega) (Ev.pos he (Ev.pos (by omega) (Ev.pos (by omega) (Ev.pos (by omega) (Ev.pos (by omega) (Ev.bindc (printable_f _ (fun x hx => hr x (List.mem_of_mem_drop (List.mem_of_mem_take hx))) (by rw [List.length_take]; omega)) (Ev.now _)))))))))
        · refine .inr ⟨fun g => he g.2.2.2, pre _ (Ev.pos (by omega) (Ev.pos (by omega) (Ev.bind hg (Ev.pos rfl (Ev.neg (by omega) ?_)))))⟩
          rw [w1, w2, hbt]
          exact Ev.neg (by omega) (Ev.pos (by omega) (Ev.pos (by omega) (Ev.neg he (Ev.now _))))
      · refine .inr ⟨fun g => h9 g.2.2.1, pre _ (Ev.pos (by omega) (Ev.pos (by omega) (Ev.bind hg (Ev.pos rfl (Ev.neg (by omega) ?_)))))⟩
        rw [w1]
        exact Ev.pos (by omega) (Ev.now _)
    · exact .inr ⟨fun g => hn g.2.1, pre _ (Ev.pos (by omega) (Ev.pos (by omega) (Ev.bind hg (Ev.pos rfl (Ev.pos (by omega) (Ev.now _))))))⟩
  · rw [hrz, mn8s (by omega)] at pre
    have hg := gets_short ((strOfNums r).extract 0 ((r.length : Int)).toNat) (by rw [Int.toNat_natCast, ByteArray.size_extract]; omega)
    exact .inr ⟨fun g => h8 g.1, pre _ (Ev.pos (by omega) (Ev.pos (by omega) (Ev.bind hg (Ev.neg (by decide) (Ev.now _)))))⟩
def wb (key v : List Int) : List Int := if v.all printB = true then key ++ 61 :: (v ++ [10]) else key ++ 10 :: (leGo 8 (v.length : Int) ++ (v ++ [10]))
theorem leGo_bytes (n : Int) : ∀ k, Bytes (leGo k n)
  | 0 => fun x hx => absurd hx (by simp [leGo])
  | k + 1 => fun x hx => by
    rw [leGo] at hx
    rcases List.mem_append.1 hx with h | h
    · exact leGo_bytes n k x h
    · rw [List.mem_singleton] at h
      subst h
      omega
theorem wb_bytes {key v : List Int} (hk : Bytes key) (hv : Bytes v) : Bytes (wb key v) := by
  unfold wb
  intro x hx
  split at hx
  all_goals
    simp only [List.mem_append, List.mem_cons, List.not_mem_nil, or_false] at hx
    first
      | (rcases hx with h | rfl | h | rfl
         · exact hk x h
         · omega
         · exact hv x h
         · omega)
      | (rcases hx with h | rfl | h | h | rfl
         · exact hk x h
         · omega
         · exact leGo_bytes _ _ x h
         · exact hv x h
         · omega)
theorem name_ok {key : List Int} (hk : Bytes key) (h : nameV (strOfNums key) = true) : (61 : Int) ∉ key ∧ (10 : Int) ∉ key ∧ key ≠ [] := by
  unfold nameV at h
  rw [size_str] at h
  split at h
  · cases h
  · split at h
    · cases h
    · split at h
      · cases h
      · rename_i h0 _ _
        rw [bytes_str hk, List.all_eq_true] at h
        refine ⟨fun g => ?_, fun g => ?_, fun g => ?_⟩
        · have := (nameB_iff 61).1 (h _ g)
          omega
        · have := (nameB_iff 10).1 (h _ g)
          omega
        · subst g
          exact h0 rfl
theorem wi1 {i n : Nat} (h : i ≤ n) (hn : n ≤ 10000000) : wrap64 ((i : Int) + 1) = ((i + 1 : Nat) : Int) := by
  unfold wrap64
  omega
theorem head_ne {l p q : List Int} {x y : Int} (h : l ++ x :: p = l ++ y :: q) : x = y ∧ p = q := by
  have e := List.append_cancel_left h
  injection e with e1 e2
  exact ⟨e1, e2⟩
theorem E0_bytes : bytesOf E0 = [] := rfl
theorem bool_no {b : Bool} {p : Prop} (h : b = true ↔ p) (hp : ¬ p) : b = false := by
  cases b with
  | false => rfl
  | true => exact absurd (h.1 rfl) hp
def pBody (k i : Nat) (c0 c1 c2 c3 c4 : Int) (tx : ByteArray) (items : List ByteArray) (q : ByteArray × ByteArray × ByteArray × Bool) : Option rdOut :=
  if q.2.2.2 = true then
    if 6 ≤ i then (item_Name.f q.1).bind fun nm => (strings_HasPrefix.f q.1 (⟨#[95, 95]⟩ : ByteArray)).bind fun hp =>
      if q.1.size + q.2.1.size ≤ 1000000000 then (if nm = true ∧ hp = false ∧ items.length < 64 ∧ q.1.size + 1 + q.2.1.size ≤ 1024 then rdGo k (i + 1) q.2.2.1 c0 c1 c2 c3 c4 tx (items ++ [(q.1 ++ (⟨#[61]⟩ : ByteArray)) ++ q.2.1]) else some rdZ) else none
    else if (q.1.toList == (tellKeys.getD i ⟨#[]⟩).toList) = true then
      if i = 0 then rdGo k 1 q.2.2.1 c0 c1 c2 c3 c4 q.2.1 items
      else (tellV i q.2.1).bind fun n => if n.2 = true then rdGo k (i + 1) q.2.2.1 (if i = 5 then n.1 else c0) (if i = 4 then n.1 else c1) (if i = 3 then n.1 else c2) (if i = 2 then n.1 else c3) (if i = 1 then n.1 else c4) tx items else some rdZ
    else some rdZ
  else some rdZ
theorem p_step (i : Nat) (s : ByteArray) (hs : s.size ≤ 1000000) (c0 c1 c2 c3 c4 : Int) (tx : ByteArray) (items : List ByteArray) (out : rdOut) (hnt : ∀ r, bytesOf s = 10 :: r → i ≤ 6) (h : Ev (fun k => (export_field.f k s).bind (pBody k i c0 c1 c2 c3 c4 tx items)) out) : Ev (fun k => rdGo k i s c0 c1 c2 c3 c4 tx items) out := by
  by_cases h10 : (10 : Int) ∈ bytesOf s
  · obtain ⟨l, r, e, hl⟩ := mem_split _ h10
    refine Ev.step (fun k => rdGo.eq_2 _ _ _ _ _ _ _ _ _ _) (Ev.bindc (line_at s (by omega) l r e hl) (Ev.neg ?_ h))
    rintro ⟨_, g2, g3⟩
    by_cases hl0 : l = []
    · subst hl0
      have := hnt r e
      omega
    · exact nil_str l hl0 g2
  · exact Ev.step (fun k => rdGo.eq_2 _ _ _ _ _ _ _ _ _ _) (Ev.bindc (line_no s h10) (Ev.neg (by simp) h))
theorem toL (s : ByteArray) (x y : UInt8) : s.toList = [x, y] ↔ bytesOf s = [(x.toNat : Int), (y.toNat : Int)] := by
  have h : (⟨#[x, y]⟩ : ByteArray).toList = [x, y] := by
    rw [ByteArray.toList_eq]
  rw [← h, toList_iff]
  rfl
theorem prefix_tells (key : ByteArray) : ∃ b : Bool, strings_HasPrefix.f key (⟨#[95, 95]⟩ : ByteArray) = some b ∧ (b = true ↔ ∃ t, bytesOf key = 95 :: 95 :: t) := by
  have h2 : ((⟨#[95, 95]⟩ : ByteArray).size : Int) = 2 := rfl
  by_cases hz : 2 ≤ key.size
  · refine ⟨((key.extract 0 2).toList == (⟨#[95, 95]⟩ : ByteArray).toList), ?_, ?_⟩
    · unfold strings_HasPrefix.f stringslite_HasPrefix.f
      rw [h2, if_pos (by omega), if_pos (by omega), if_pos (by omega)]
      rfl
    · rw [beq_iff_eq, toList_iff, bytesOf_extract, List.drop_zero]
      constructor
      · intro h
        refine ⟨(bytesOf key).drop 2, ?_⟩
        rw [← List.take_append_drop 2 (bytesOf key), h]
        rfl
      · rintro ⟨t, h⟩
        rw [h]
        rfl
  · refine ⟨false, ?_, fun h => by (cases h), fun h => ?_⟩
    · unfold strings_HasPrefix.f stringslite_HasPrefix.f
      rw [h2, if_neg (by omega)]
      rfl
    · obtain ⟨t, h⟩ := h
      have e := congrArg List.length h
      rw [bytesOf_length, List.length_cons, List.length_cons] at e
      omega
def Fit (key v : List Int) : Prop := (¬ ∃ t, key = 95 :: 95 :: t) ∧ key.length + 1 + v.length ≤ 1024
theorem wb_size (key v : List Int) : key.length + v.length + 2 ≤ (wb key v).length := by
  unfold wb
  split <;> simp [leGo_len] <;> omega
theorem nil_eq : ((strOfNums []).toList == ([] : List UInt8)) = true := beq_iff_eq.2 (toList_eq_nil.2 (size_str []))
theorem p_term (i : Nat) (hi : 6 < i) (s : ByteArray) (hs : s.size ≤ 1000000) (r : List Int) (hr : bytesOf s = 10 :: r) (c0 c1 c2 c3 c4 : Int) (tx : ByteArray) (items : List ByteArray) (x : Int × Int × Int × Int × Int × Int × Int) (hx : Ev (fun k => cursor_Parse.f k tx) x) :
    Ev (fun k => rdGo k i s c0 c1 c2 c3 c4 tx items) (if x.2.2.2.2.2.2 = 0 ∧ x.1 = c0 ∧ x.2.1 = c1 ∧ x.2.2.1 = c2 ∧ x.2.2.2.1 = c3 ∧ x.2.2.2.2.1 = c4 then (c0, c1, c2, c3, c4, x.2.2.2.2.2.1, items, strOfNums r, true) else rdZ) := by
  refine Ev.step (fun k => rdGo.eq_2 _ _ _ _ _ _ _ _ _ _) (Ev.bindc (line_at s (by omega) [] r hr (by simp)) (Ev.pos ⟨rfl, nil_eq, hi⟩ (Ev.bind hx (Ev.both (fun h => ?_) (fun h => ?_)))))
  · rw [if_pos h]
    exact Ev.now _
  · rw [if_neg h]
    exact Ev.now _
def K (i : Nat) : List Int := bytesOf (tellKeys.getD i ⟨#[]⟩)
theorem K_facts : ∀ i : Fin 6, (61 : Int) ∉ K i.val ∧ (10 : Int) ∉ K i.val ∧ K i.val ≠ [] := by decide +kernel
def D (i : Nat) (n : Int) : List Int := if i = 3 ∨ i = 5 then hexL n else Num.dec n
theorem isX_print {x : Int} (h : isX x = true) : printB x = true ∧ x ≠ 10 := by
  have := isX_iff.1 h
  refine ⟨(printB_iff x).2 ?_, ?_⟩ <;> omega
theorem D_chars (i : Nat) (n : Int) (h : U64 n) : (D i n).all printB = true ∧ (10 : Int) ∉ D i n ∧ Bytes (D i n) ∧ (D i n).length ≤ 20 := by
  unfold D
  split
  · refine ⟨List.all_eq_true.2 fun x hx => (isX_print (hexL_isX n x hx)).1, fun hx => (isX_print (hexL_isX n 10 hx)).2 rfl, isX_byte (hexL_isX n), by rw [hexL_len]; decide⟩
  · have hb := decF_bytes 20 n h.1
    have hp : ∀ x ∈ Num.dec n, printB x = true ∧ x ≠ 10 := fun x hx => by
      have := hb x hx
      refine ⟨(printB_iff x).2 ?_, ?_⟩ <;> omega
    refine ⟨List.all_eq_true.2 fun x hx => (hp x hx).1, fun hx => (hp 10 hx).2 rfl, fun x hx => ?_, decF_len 20 n⟩
    have := hb x hx
    omega
theorem tell_yes (i : Nat) (n : Int) (h : U64 n) : tellV i (strOfNums (D i n)) = some (n, true) := by
  unfold tellV D
  by_cases hi : i = 3 ∨ i = 5
  · rw [if_pos hi, if_pos hi, name_tells, nameS_yes h]
  · rw [if_neg hi, if_neg hi, Num.number_yes n h.1 h.2]
theorem key_str (i : Nat) : strOfNums (K i) = tellKeys.getD i ⟨#[]⟩ := str_bytes _
theorem line_i (i : Nat) (hi : i < 6) (s : ByteArray) (hs : s.size ≤ 1000000) (V R : List Int) (h : bytesOf s = (K i ++ 61 :: V) ++ 10 :: R) (hp : V.all printB = true) (h10 : (10 : Int) ∉ V) (c0 c1 c2 c3 c4 : Int) (tx : ByteArray) (out : rdOut) :
    (i = 0 → Ev (fun k => rdGo k 1 (strOfNums R) c0 c1 c2 c3 c4 (strOfNums V) []) out → Ev (fun k => rdGo k i s c0 c1 c2 c3 c4 tx []) out) ∧
    (∀ n, 0 < i → U64 n → V = D i n → Ev (fun k => rdGo k (i + 1) (strOfNums R) (if i = 5 then n else c0) (if i = 4 then n else c1) (if i = 3 then n else c2) (if i = 2 then n else c3) (if i = 1 then n else c4) tx []) out → Ev (fun k => rdGo k i s c0 c1 c2 c3 c4 tx []) out) := by
  obtain ⟨k1, k2, k3⟩ := K_facts ⟨i, hi⟩
  have hf := field_eq s (by omega) (K i) V R h (by
    intro g
    rcases List.mem_append.1 g with g | g
    · exact k2 g
    · rcases List.mem_cons.1 g with g | g
      · exact absurd g (by decide)
      · exact h10 g) k1
  rw [hp] at hf
  have hk : ((strOfNums (K i)).toList == (tellKeys.getD i ⟨#[]⟩).toList) = true := by rw [key_str, beq_iff_eq]
  refine ⟨fun h0 ho => ?_, fun n h0 hn hV ho => ?_⟩
  · exact p_step i s hs _ _ _ _ _ _ _ _ (fun r _ => by omega) (Ev.bind hf (Ev.pos rfl (Ev.neg (by omega) (Ev.pos hk (Ev.pos h0 ho)))))
  · subst hV
    exact p_step i s hs _ _ _ _ _ _ _ _ (fun r _ => by omega) (Ev.bind hf (Ev.pos rfl (Ev.neg (by omega) (Ev.pos hk (Ev.neg (by omega) (Ev.bindc (tell_yes i n hn) (Ev.pos rfl ho)))))))
def tailL (a b c d e : Int) (R : List Int) : List Int := (K 1 ++ 61 :: D 1 e) ++ 10 :: ((K 2 ++ 61 :: D 2 d) ++ 10 :: ((K 3 ++ 61 :: D 3 c) ++ 10 :: ((K 4 ++ 61 :: D 4 b) ++ 10 :: ((K 5 ++ 61 :: D 5 a) ++ 10 :: R))))
def frontL (a b c d e f : Int) (R : List Int) : List Int := (K 0 ++ 61 :: textL a b c d e f) ++ 10 :: tailL a b c d e R
theorem piece_print {key : Int} {l : List Int} (hk : printB key = true ∧ key ≠ 10) (h : ∀ x ∈ l, isX x = true) : ∀ x ∈ pieceK key l, printB x = true ∧ x ≠ 10 := by
  intro x hx
  unfold pieceK at hx
  rcases List.mem_cons.1 hx with rfl | hx
  · exact hk
  rcases List.mem_cons.1 hx with rfl | hx
  · decide
  · exact isX_print (h x hx)
theorem app_print {A B : List Int} (hA : ∀ x ∈ A, printB x = true ∧ x ≠ 10) (hB : ∀ x ∈ B, printB x = true ∧ x ≠ 10) : ∀ x ∈ A ++ 59 :: B, printB x = true ∧ x ≠ 10 := by
  intro x hx
  rcases List.mem_append.1 hx with hx | hx
  · exact hA x hx
  rcases List.mem_cons.1 hx with rfl | hx
  · decide
  · exact hB x hx
theorem textL_print (a b c d e f : Int) : ∀ x ∈ textL a b c d e f, printB x = true ∧ x ≠ 10 := by
  unfold textL
  exact app_print (piece_print (by decide) (hexL_isX _)) (app_print (piece_print (by decide) (hexS_isX _)) (app_print (piece_print (by decide) (hexL_isX _)) (app_print (piece_print (by decide) (hexS_isX _)) (app_print (piece_print (by decide) (hexS_isX _)) (piece_print (by decide) (hexS_isX _))))))
theorem textL_all (a b c d e f : Int) : (textL a b c d e f).all printB = true := List.all_eq_true.2 fun x hx => (textL_print a b c d e f x hx).1
theorem textL_no10 (a b c d e f : Int) : (10 : Int) ∉ textL a b c d e f := fun h => (textL_print a b c d e f 10 h).2 rfl
theorem text6_str {a b c d e f : Int} (ha : U64 a) (hb : U64 b) (hc : U64 c) (hd : U64 d) (he : U64 e) (hf : U64 f) : Text6 (strOfNums (textL a b c d e f)) a b c d e f := ⟨ha, hb, hc, hd, he, hf, bytes_str (textL_bytes a b c d e f)⟩
/-- The program behind six lines that are right. -/
theorem p_yes (S : ByteArray) (hS : S.size ≤ 1000000) (a b c d e f : Int) (R : List Int) (ha : U64 a) (hb : U64 b) (hc : U64 c) (hd : U64 d) (he : U64 e) (hf : U64 f) (h : bytesOf S = frontL a b c d e f R) (out : rdOut)
    (ho : Ev (fun k => rdGo k 6 (strOfNums R) a b c d e (strOfNums (textL a b c d e f)) []) out) : Ev (fun k => export_Read.f k S) out := by
  have nx : ∀ (i : Nat) (s : ByteArray) (l r : List Int), s.size ≤ 1000000 → bytesOf s = l ++ 10 :: r → bytesOf (strOfNums r) = r ∧ (strOfNums r).size ≤ 1000000 := fun i s l r hs g => by
    have z := two_size g
    exact ⟨bytes_str (two_bytes g).2.1, by rw [size_str]; omega⟩
  unfold frontL tailL at h
  obtain ⟨b0, z0⟩ := nx 0 S _ _ hS h
  obtain ⟨b1, z1⟩ := nx 1 _ _ _ z0 b0
  obtain ⟨b2, z2⟩ := nx 2 _ _ _ z1 b1
  obtain ⟨b3, z3⟩ := nx 3 _ _ _ z2 b2
  obtain ⟨b4, z4⟩ := nx 4 _ _ _ z3 b3
  have q0 := D_chars 1 e he
  have q1 := D_chars 2 d hd
  have q2 := D_chars 3 c hc
  have q3 := D_chars 4 b hb
  have q4 := D_chars 5 a ha
  refine (line_i 0 (by decide) S hS _ _ h (textL_all a b c d e f) (textL_no10 a b c d e f) 0 0 0 0 0 _ out).1 rfl ?_
  refine (line_i 1 (by decide) _ z0 _ _ b0 q0.1 q0.2.1 0 0 0 0 0 _ out).2 e (by decide) he rfl ?_
  refine (line_i 2 (by decide) _ z1 _ _ b1 q1.1 q1.2.1 0 0 0 0 e _ out).2 d (by decide) hd rfl ?_
  refine (line_i 3 (by decide) _ z2 _ _ b2 q2.1 q2.2.1 0 0 0 d e _ out).2 c (by decide) hc rfl ?_
  refine (line_i 4 (by decide) _ z3 _ _ b3 q3.1 q3.2.1 0 0 c d e _ out).2 b (by decide) hb rfl ?_
  exact (line_i 5 (by decide) _ z4 _ _ b4 q4.1 q4.2.1 0 b c d e _ out).2 a (by decide) ha rfl ho
theorem lits : bytesOf (⟨#[95, 95, 67, 85, 82, 83, 79, 82, 61]⟩ : ByteArray) = K 0 ++ [61] ∧ bytesOf (⟨#[10, 95, 95, 82, 69, 65, 76, 84, 73, 77, 69, 95, 84, 73, 77, 69, 83, 84, 65, 77, 80, 61]⟩ : ByteArray) = 10 :: (K 1 ++ [61]) ∧ bytesOf (⟨#[10, 95, 95, 77, 79, 78, 79, 84, 79, 78, 73, 67, 95, 84, 73, 77, 69, 83, 84, 65, 77, 80, 61]⟩ : ByteArray) = 10 :: (K 2 ++ [61]) ∧ bytesOf (⟨#[10, 95, 95, 66, 79, 79, 84, 95, 73, 68, 61]⟩ : ByteArray) = 10 :: (K 3 ++ [61]) ∧ bytesOf (⟨#[10, 95, 95, 83, 69, 81, 78, 85, 77, 61]⟩ : ByteArray) = 10 :: (K 4 ++ [61]) ∧ bytesOf (⟨#[10, 95, 95, 83, 69, 81, 78, 85, 77, 95, 73, 68, 61]⟩ : ByteArray) = 10 :: (K 5 ++ [61]) := by decide +kernel
theorem front_len (a b c d e f : Int) (ha : U64 a) (hb : U64 b) (hc : U64 c) (hd : U64 d) (he : U64 e) (hf : U64 f) (R : List Int) : 9 + (textL a b c d e f).length < (frontL a b c d e f []).length ∧ (frontL a b c d e f []).length ≤ 600 ∧ frontL a b c d e f R = frontL a b c d e f [] ++ R ∧ Bytes (frontL a b c d e f []) := by
  have t := textL_len a b c d e f
  have q0 := D_chars 1 e he
  have q1 := D_chars 2 d hd
  have q2 := D_chars 3 c hc
  have q3 := D_chars 4 b hb
  have q4 := D_chars 5 a ha
  have kl : (K 0).length = 8 ∧ (K 1).length = 20 ∧ (K 2).length = 21 ∧ (K 3).length = 9 ∧ (K 4).length = 8 ∧ (K 5).length = 11 := by decide +kernel
  refine ⟨?_, ?_, ?_, ?_⟩
  · unfold frontL tailL
    simp only [List.length_append, List.length_cons, List.length_nil]
    omega
  · unfold frontL tailL
    simp only [List.length_append, List.length_cons, List.length_nil]
    omega
  · unfold frontL tailL
    simp
  · have hK : ∀ i, Bytes (K i) := fun i => bytesOf_bytes _
    unfold frontL tailL
    have cb : ∀ {l r : List Int} {x : Int}, Bytes l → (0 ≤ x ∧ x ≤ 255) → Bytes r → Bytes (l ++ x :: r) := fun hl hx hr y hy => by
      rcases List.mem_append.1 hy with hy | hy
      · exact hl y hy
      rcases List.mem_cons.1 hy with rfl | hy
      · exact hx
      · exact hr y hy
    exact cb (cb (hK 0) (by decide) (textL_bytes _ _ _ _ _ _)) (by decide) (cb (cb (hK 1) (by decide) q0.2.2.1) (by decide) (cb (cb (hK 2) (by decide) q1.2.2.1) (by decide) (cb (cb (hK 3) (by decide) q2.2.2.1) (by decide) (cb (cb (hK 4) (by decide) q3.2.2.1) (by decide) (cb (cb (hK 5) (by decide) q4.2.2.1) (by decide) (fun x hx => absurd hx (by simp)))))))
theorem texts_go (l : List ByteArray) (hl : l.length ≤ 1000000) : ∀ (d i : Nat), d + i = l.length → Ev (fun k => logbookref04_Texts.l0 k l l i) true
  | 0, i, hd => Ev.step (fun k => logbookref04_Texts.l0.eq_2 _ _ _ _) (Ev.neg (by omega) (Ev.now _))
  | d + 1, i, hd => by
    refine Ev.step (fun k => logbookref04_Texts.l0.eq_2 _ _ _ _) (Ev.pos (by omega) (Ev.pos (by omega) (Ev.pos (by omega) (Ev.pos rfl ?_))))
    rw [wi1 (i := i) (n := l.length) (by omega) (by omega)]
    exact texts_go l hl d (i + 1) (by omega)
theorem texts_tells (l : List ByteArray) (hl : l.length ≤ 1000000) : Ev (fun k => logbookref04_Texts.f k l l) true := Ev.pos rfl (texts_go l hl l.length 0 (by omega))
end RB
namespace RP
open Cu EW RB
/-! ### the reference: each text is put among those that rise -/
def less (a b : ByteArray) : Bool := Op.bytesLess a.toList b.toList
theorem bl : ∀ (x y : List UInt8), Op.bytesLess x y = decide (x < y)
  | [], [] => rfl
  | _ :: _, [] => by simp [Op.bytesLess]
  | [], _ :: _ => by simp [Op.bytesLess]
  | a :: x, b :: y => by
    rw [Op.bytesLess, bl x y]
    by_cases h : a < b <;> by_cases h' : a = b <;> simp [h, h', List.cons_lt_cons_iff]
theorem less_iff : ∀ x y : List UInt8, Op.bytesLess x y = true ↔ x ≤ y ∧ x ≠ y := fun x y => by
  rw [bl, decide_eq_true_iff]
  constructor
  · intro h
    exact ⟨List.le_of_lt h, fun e => List.lt_irrefl x (by rw [e] at h ⊢; exact h)⟩
  · rintro ⟨h1, h2⟩
    exact Classical.byContradiction fun h => h2 (List.le_antisymm h1 (List.not_lt.1 h))
def ins (s : ByteArray) : List ByteArray → List ByteArray
  | [] => [s]
  | x :: r => if less s x = true then s :: x :: r else x :: ins s r
theorem mem_ins (s y : ByteArray) : ∀ l : List ByteArray, y ∈ ins s l ↔ y = s ∨ y ∈ l
  | [] => by simp [ins]
  | x :: r => by
    rw [ins]
    split
    · simp
    · rw [List.mem_cons, mem_ins s y r, List.mem_cons]
      constructor
      · rintro (h | h | h)
        · exact .inr (.inl h)
        · exact .inl h
        · exact .inr (.inr h)
      · rintro (h | h | h)
        · exact .inr (.inl h)
        · exact .inl h
        · exact .inr (.inr h)
theorem len_ins (s : ByteArray) : ∀ l : List ByteArray, (ins s l).length = l.length + 1
  | [] => rfl
  | x :: r => by
    rw [ins]
    split
    · rfl
    · rw [List.length_cons, len_ins s r, List.length_cons]
def Rises (l : List ByteArray) : Prop := l.Pairwise fun a b => a.toList ≤ b.toList ∧ a ≠ b
theorem ins_rises (s : ByteArray) : ∀ l : List ByteArray, Rises l → s ∉ l → Rises (ins s l)
  | [], _, _ => by simp [ins, Rises]
  | x :: r, h, hs => by
    obtain ⟨h1, h2⟩ := List.pairwise_cons.1 h
    rw [ins]
    by_cases g : less s x = true
    · rw [if_pos g]
      have g1 := (less_iff _ _).1 g
      refine List.pairwise_cons.2 ⟨fun y hy => ?_, h⟩
      rcases List.mem_cons.1 hy with rfl | hy
      · exact ⟨g1.1, fun e => g1.2 (by rw [e])⟩
      · exact ⟨List.le_trans g1.1 (h1 y hy).1, fun e => hs (by rw [e]; exact List.mem_cons_of_mem _ hy)⟩
    · rw [if_neg g]
      refine List.pairwise_cons.2 ⟨fun y hy => ?_, ins_rises s r h2 (fun e => hs (List.mem_cons_of_mem _ e))⟩
      rcases (mem_ins s y r).1 hy with rfl | hy
      · have hne : x ≠ y := fun e => hs (by rw [e]; simp)
        refine ⟨?_, hne⟩
        rcases List.le_total x.toList y.toList with k | k
        · exact k
        · exact absurd ((less_iff _ _).2 ⟨k, fun e => hne (toList_inj e).symm⟩) g
      · exact h1 y hy
open Classical in
theorem put_go (l : List ByteArray) (s : ByteArray) (hl : l.length ≤ 100) : ∀ (d i : Nat) (out : List ByteArray) (done : Bool), d + i = l.length → out.length ≤ 2 * i →
    Ev (fun k => logbookref04_Put.l0 k l s out done i) (if s ∈ l.drop i then l else out ++ (if done = true then l.drop i else ins s (l.drop i)))
  | 0, i, out, done, hd, ho => by
    have e : l.drop i = [] := List.drop_of_length_le (by omega)
    rw [e, if_neg (by simp)]
    refine Ev.step (fun k => logbookref04_Put.l0.eq_2 _ _ _ _ _ _) (Ev.neg (by omega) (Ev.both (fun h => ?_) (fun h => ?_)))
    · rw [if_pos h, List.append_nil]
      exact Ev.now _
    · rw [if_neg h]
      exact Ev.pos (by omega) (Ev.now _)
  | d + 1, i, out, done, hd, ho => by
    have hi : i < l.length := by omega
    have hg : rdOf ByteArray.empty l (i : Int) = l[i] := by
      unfold rdOf
      rw [Int.toNat_natCast, List.getD_eq_getElem?_getD, List.getElem?_eq_getElem hi]
      rfl
    have hdr : l.drop i = l[i] :: l.drop (i + 1) := List.drop_eq_getElem_cons hi
    refine Ev.step (fun k => logbookref04_Put.l0.eq_2 _ _ _ _ _ _) ?_
    rw [hg, wi (i := i) (n := l.length) (by omega) (by omega), hdr]
    generalize l[i] = x
    refine Ev.pos (by omega) (Ev.pos (by omega) ?_)
    by_cases hx : x.toList = s.toList
    · have e : x = s := toList_inj hx
      rw [if_pos (by rw [e]; simp)]
      exact Ev.pos hx (Ev.now _)
    · have hne : s ≠ x := fun e => hx (by rw [e])
      have hm : (s ∈ x :: l.drop (i + 1)) = (s ∈ l.drop (i + 1)) := by
        rw [List.mem_cons]
        exact propext ⟨fun h => h.resolve_left hne, .inr⟩
      simp only [hm]
      refine Ev.neg hx (Ev.both (fun h => ?_) (fun h => ?_))
      · refine Ev.both (fun hdn => Ev.pos (by omega) ?_) (fun hdn => Ev.pos (by omega) (Ev.bindc rfl (Ev.pos (by rw [List.length_append]; simp; omega) ?_)))
        · subst hdn
          refine Ev.eq (put_go l s hl d (i + 1) (out ++ [x]) true (by omega) (by simp; omega)) ?_
          simp
        · refine Ev.eq (put_go l s hl d (i + 1) ((out ++ [s]) ++ [x]) true (by omega) ?_) ?_
          · simp
            omega
          · have hl2 : less s x = true := h
            rw [if_neg hdn, ins, if_pos hl2]
            simp
      · refine Ev.pos (by omega) (Ev.eq (put_go l s hl d (i + 1) (out ++ [x]) done (by omega) (by simp; omega)) ?_)
        have hl2 : ¬ less s x = true := h
        rw [ins, if_neg hl2]
        cases done <;> simp
open Classical in
noncomputable def putS (l : List ByteArray) (s : ByteArray) : List ByteArray := if s ∈ l then l else ins s l
open Classical in
theorem put_tells (l : List ByteArray) (s : ByteArray) (hl : l.length ≤ 100) : Ev (fun k => logbookref04_Put.f k l s) (putS l s) := by
  have := put_go l s hl l.length 0 [] false (by omega) (by simp)
  refine Ev.eq this ?_
  unfold putS
  simp
end RP
end Go.Proofs.YtbbegchdlkmebaaDoor.Pure
