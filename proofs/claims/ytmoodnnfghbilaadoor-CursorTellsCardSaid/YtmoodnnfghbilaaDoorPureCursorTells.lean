/- CursorTells: the cursor of every entry: in plain Lean. -/
import Derived.Test.YtmoodnnfghbilaaDoorPCursorTellsx5
import Derived.Test.YtmoodnnfghbilaaDoorHex
namespace Go.Proofs.YtmoodnnfghbilaaDoor.Pure
open Go.RowKit Go.Proofs.YtmoodnnfghbilaaDoor.PCursorTells Go.Proofs.YtmoodnnfghbilaaDoorW.PrintWords Go.Proofs.YtmoodnnfghbilaaDoorW.PrintLast Go.Proofs.YtmoodnnfghbilaaDoorW.PrintMore Go.Proofs.YtmoodnnfghbilaaDoor.Evs Go.Proofs.YtmoodnnfghbilaaDoor.Str Go.Proofs.YtmoodnnfghbilaaDoor.Conv Go.Proofs.YtmoodnnfghbilaaDoor.Hex
set_option linter.unusedVariables false
set_option linter.unusedSimpArgs false
namespace CT
theorem hex_f (n : Int) (h : U64 n) : name_Hex.f n = some (strOfNums (hexL n)) := if_pos h
theorem trim_go : ∀ (d : Nat) (l : List Int), l.length = d → Bytes l → d ≤ 100000000 → Ev (fun k => strings_trimLeftByte.l0 k (strOfNums l) 48) (strOfNums (trim0 l))
  | 0, l, hl, hb, hd => by
    obtain rfl := List.eq_nil_of_length_eq_zero hl
    exact Ev.step (fun k => strings_trimLeftByte.l0.eq_2 _ _ _) (Ev.neg (by rw [size_str]; simp) (Ev.now _))
  | d + 1, c :: l, hl, hb, hd => by
    have hs : (strOfNums (c :: l)).size = d + 1 := by rw [size_str]; exact hl
    have h0 : bt (strOfNums (c :: l)) 0 = c := by
      have := bt_get (strOfNums (c :: l)) 0
      rw [bytes_str hb] at this
      exact this
    have he : (strOfNums (c :: l)).extract 1 (strOfNums (c :: l)).size = strOfNums l := by
      apply bytesOf_inj
      have hb2 : Bytes l := fun x hx => hb x (List.mem_cons_of_mem _ hx)
      rw [bytesOf_extract, bytes_str hb, bytes_str hb2, List.take_of_length_le (by rw [hs]; omega)]
      rfl
    refine Ev.step (fun k => strings_trimLeftByte.l0.eq_2 _ _ _) (Ev.pos (by omega) (Ev.pos (by omega) ?_))
    rw [h0, he]
    refine Ev.both (fun h => Ev.pos (by omega) ?_) (fun h => Ev.eq (Ev.now _) ?_)
    · subst h
      have ih := trim_go d l (by simpa using hl) (fun x hx => hb x (List.mem_cons_of_mem _ hx)) (by omega)
      have e : trim0 (48 :: l) = trim0 l := by
        unfold trim0
        rw [List.dropWhile_cons_of_pos (by simp)]
      rw [e]
      exact ih
    · unfold trim0
      rw [List.dropWhile_cons_of_neg (by simpa using h)]
theorem hexs_tells (n : Int) (h : U64 n) : Ev (fun k => cursor_Hex.f k n) (strOfNums (hexS n)) := by
  have hb : Bytes (hexL n) := isX_byte (hexL_isX n)
  have htb : Bytes (trim0 (hexL n)) := fun x hx => hb x (trim_mem hx)
  have ht : Ev (fun k => strings_TrimLeft.f k (strOfNums (hexL n)) (⟨#[48]⟩ : ByteArray)) (strOfNums (trim0 (hexL n))) := by
    have e48 : bt (⟨#[48]⟩ : ByteArray) 0 = 48 := rfl
    refine Ev.pos ⟨rfl, by rw [e48]; decide⟩ (Ev.neg ?_ ?_)
    · rw [size_str, hexL_len]
      decide
    · rw [e48]
      have := trim_go 16 (hexL n) (hexL_len n) hb (by decide)
      exact this
  refine Ev.bindc (hex_f n h) (Ev.bind ht ?_)
  unfold hexS
  by_cases e : trim0 (hexL n) = []
  · rw [if_pos e]
    exact Ev.pos (toList_eq_nil.2 (by rw [size_str, e]; rfl)) (Ev.now _)
  · rw [if_neg e]
    refine Ev.neg (fun e2 => e ?_) (Ev.now _)
    have := toList_eq_nil.1 e2
    rw [size_str] at this
    exact List.eq_nil_of_length_eq_zero this
theorem pieceK_str (key : UInt8) (l : List Int) : (⟨#[key, 61]⟩ : ByteArray) ++ strOfNums l = strOfNums (pieceK (key.toNat : Int) l) := by
  have e : (⟨#[key, 61]⟩ : ByteArray) = strOfNums [(key.toNat : Int), 61] := by
    show ByteArray.mk #[key, 61] = ByteArray.mk #[UInt8.ofNat ((key.toNat : Int)).toNat, 61]
    rw [ofNat_nat]
  rw [e, str_append]
  rfl
theorem text_tells (a b c d e f : Int) (ha : U64 a) (hb : U64 b) (hc : U64 c) (hd : U64 d) (he : U64 e) (hf : U64 f) : Ev (fun k => cursor_Cursor_Text.f k a b c d e f) (strOfNums (textL a b c d e f)) := by
  have sz : ∀ l : List Int, l.length ≤ 16 → 2 + (strOfNums l).size ≤ 9223372036854775807 := fun l hl => by rw [size_str]; omega
  have s16 : ∀ n, (hexL n).length ≤ 16 := fun n => by rw [hexL_len]; exact Nat.le_refl _
  refine Ev.bindc (hex_f a ha) (Ev.pos (sz _ (s16 a)) (Ev.bind (hexs_tells b hb) (Ev.pos (sz _ (hexS_len b)) (Ev.bindc (hex_f c hc) (Ev.pos (sz _ (s16 c)) (Ev.bind (hexs_tells d hd) (Ev.pos (sz _ (hexS_len d)) (Ev.bind (hexs_tells e he) (Ev.pos (sz _ (hexS_len e)) (Ev.bind (hexs_tells f hf) (Ev.pos (sz _ (hexS_len f)) ?_)))))))))))
  have hj : strings_Join.f ([(⟨#[115, 61]⟩ : ByteArray) ++ strOfNums (hexL a), (⟨#[105, 61]⟩ : ByteArray) ++ strOfNums (hexS b), (⟨#[98, 61]⟩ : ByteArray) ++ strOfNums (hexL c), (⟨#[109, 61]⟩ : ByteArray) ++ strOfNums (hexS d), (⟨#[116, 61]⟩ : ByteArray) ++ strOfNums (hexS e), (⟨#[120, 61]⟩ : ByteArray) ++ strOfNums (hexS f)] : List ByteArray) (⟨#[59]⟩ : ByteArray) = some (strOfNums (textL a b c d e f)) := by
    rw [pieceK_str 115, pieceK_str 105, pieceK_str 98, pieceK_str 109, pieceK_str 116, pieceK_str 120]
    have e1 : joinL (bytesOf (⟨#[59]⟩ : ByteArray)) [strOfNums (pieceK ((115 : UInt8).toNat : Int) (hexL a)), strOfNums (pieceK ((105 : UInt8).toNat : Int) (hexS b)), strOfNums (pieceK ((98 : UInt8).toNat : Int) (hexL c)), strOfNums (pieceK ((109 : UInt8).toNat : Int) (hexS d)), strOfNums (pieceK ((116 : UInt8).toNat : Int) (hexS e)), strOfNums (pieceK ((120 : UInt8).toNat : Int) (hexS f))] = textL a b c d e f := by
      have b1 : bytesOf (strOfNums (pieceK ((115 : UInt8).toNat : Int) (hexL a))) = pieceK 115 (hexL a) := bytes_str (pieceK_bytes (by decide) (hexL_isX _))
      have b2 : bytesOf (strOfNums (pieceK ((105 : UInt8).toNat : Int) (hexS b))) = pieceK 105 (hexS b) := bytes_str (pieceK_bytes (by decide) (hexS_isX _))
      have b3 : bytesOf (strOfNums (pieceK ((98 : UInt8).toNat : Int) (hexL c))) = pieceK 98 (hexL c) := bytes_str (pieceK_bytes (by decide) (hexL_isX _))
      have b4 : bytesOf (strOfNums (pieceK ((109 : UInt8).toNat : Int) (hexS d))) = pieceK 109 (hexS d) := bytes_str (pieceK_bytes (by decide) (hexS_isX _))
      have b5 : bytesOf (strOfNums (pieceK ((116 : UInt8).toNat : Int) (hexS e))) = pieceK 116 (hexS e) := bytes_str (pieceK_bytes (by decide) (hexS_isX _))
      have b6 : bytesOf (strOfNums (pieceK ((120 : UInt8).toNat : Int) (hexS f))) = pieceK 120 (hexS f) := bytes_str (pieceK_bytes (by decide) (hexS_isX _))
      simp only [joinL]
      rw [b1, b2, b3, b4, b5, b6]
      unfold textL
      simp [bytesOf]
    unfold strings_Join.f
    rw [e1]
    have := textL_len a b c d e f
    exact if_pos ⟨by simp, by omega⟩
  exact Ev.bindc hj (Ev.now _)
theorem awake_tells : Ev (fun k => logbooklaw29_awake.f k) true := by
  have u : U64 0 := ⟨by decide, by decide⟩
  refine Ev.bind (text_tells 0 0 0 0 0 0 u u u u u u) (Ev.eq (Ev.now _) ?_)
  decide +kernel
theorem law (a b c d e : Int) (l : List ByteArray) (x : Int) (p q r s t u : Int) : ∃ k, logbooklaw29_CursorTells.f k a b c d e l x p q r s t u = some true := by
  refine Ev.at ?_
  refine Ev.bindc rfl (Ev.bindc rfl (Ev.pos (by simp) (Ev.bindc rfl (Ev.bindc rfl (Ev.pos ?_ (Ev.bindc rfl (Ev.bindc rfl (Ev.pos ?_ (Ev.bind awake_tells (Ev.now _))))))))))
  · simp
  · simp
end CT
end Go.Proofs.YtmoodnnfghbilaaDoor.Pure
namespace Go.Proofs.YtmoodnnfghbilaaDoor.PureCursorTells
set_option linter.unusedVariables false
open Go.Proofs.YtmoodnnfghbilaaDoor.PCursorTells
theorem CursorTells (y0 : Int) (y1 : Int × Int × Int × Int × List ByteArray) (y2 : Int) (y3 : Int × Int × Int × Int × Int × Int) (w0 : (Lit.int .u64 y0).wf = true)
    (w1 : ((Lit.int .u64 y1.1).wf = true) ∧ ((Lit.int .u64 y1.2.1).wf = true) ∧ ((Lit.int .u64 y1.2.2.1).wf = true) ∧ ((Lit.int .u64 y1.2.2.2.1).wf = true) ∧ ((y1.2.2.2.2.length ≤ maxLen ∧ y1.2.2.2.2.length * 16 ≤ 140737488351232 ∧ ∀ x ∈ y1.2.2.2.2, x.size ≤ 140737488351232)))
    (w2 : (Lit.int .u64 y2).wf = true)
    (w3 : ((Lit.int .u64 y3.1).wf = true) ∧ ((Lit.int .u64 y3.2.1).wf = true) ∧ ((Lit.int .u64 y3.2.2.1).wf = true) ∧ ((Lit.int .u64 y3.2.2.2.1).wf = true) ∧ ((Lit.int .u64 y3.2.2.2.2.1).wf = true) ∧ ((Lit.int .u64 y3.2.2.2.2.2).wf = true)) :
    ∃ k, logbooklaw29_CursorTells.f k y0 y1.1 y1.2.1 y1.2.2.1 y1.2.2.2.1 y1.2.2.2.2 y2 y3.1 y3.2.1 y3.2.2.1 y3.2.2.2.1 y3.2.2.2.2.1 y3.2.2.2.2.2 = some true :=
  Pure.CT.law _ _ _ _ _ _ _ _ _ _ _ _ _
end Go.Proofs.YtmoodnnfghbilaaDoor.PureCursorTells
