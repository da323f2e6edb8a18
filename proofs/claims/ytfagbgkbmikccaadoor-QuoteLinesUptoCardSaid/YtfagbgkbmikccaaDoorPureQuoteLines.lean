/- QuoteLines: every line of words is read again, and is what the reference writes: in plain Lean. -/
import Derived.Test.YtfagbgkbmikccaaDoorPQuoteLinesx3
import Derived.Test.YtfagbgkbmikccaaDoorWds
import Derived.Test.YtfagbgkbmikccaaDoorOpen
namespace Go.Proofs.YtfagbgkbmikccaaDoor.Pure
open Go.RowKit Go.Proofs.YtfagbgkbmikccaaDoor.PQuoteLines Go.Proofs.YtfagbgkbmikccaaDoorW.PrintWords Go.Proofs.YtfagbgkbmikccaaDoorW.PrintMore Go.Proofs.YtfagbgkbmikccaaDoor.Evs Go.Proofs.YtfagbgkbmikccaaDoor.Str Go.Proofs.YtfagbgkbmikccaaDoor.Conv Go.Proofs.YtfagbgkbmikccaaDoor.Quo Go.Proofs.YtfagbgkbmikccaaDoor.Wds
set_option linter.unusedVariables false
set_option linter.unusedSimpArgs false
namespace QL
theorem awake_tells : Ev (fun k => logbooklaw31_awake.f k) true := ⟨6, fun k hk => by
  obtain ⟨m, rfl⟩ : ∃ m, k = m + 6 := ⟨k - 6, by omega⟩
  have h : ∀ m, logbooklaw31_awake.f 6 = some true → logbooklaw31_awake.f (m + 6) = some true := fun m h => by
    induction m with
    | zero => exact h
    | succ m ih => rw [show m + 1 + 6 = m + 6 + 1 by omega]; exact logbooklaw31_awake.mono (m + 6) _ ih
  exact h m (by decide +kernel)⟩
theorem wn {i n : Nat} (h : i ≤ n) (hn : n ≤ 100000000) : wrap64 ((i : Int) + 1) = ((i + 1 : Nat) : Int) := by
  rw [w64 (by omega) (by omega)]
  omega
theorem wm {i n : Nat} (h : i ≤ n) (hn : n ≤ 100000000) : wrap64 ((i : Int) + 0) = (i : Int) := by
  rw [w64 (by omega) (by omega)]
  omega
/-! ### strings.Split at a blank -/
def sep : ByteArray := ⟨#[32]⟩
theorem sep_size : ((sep.size : Nat) : Int) = 1 := rfl
theorem wsep {m n : Nat} (h : m ≤ n) (hn : n ≤ 100000000) : wrap64 ((m : Int) + ((sep.size : Nat) : Int)) = ((m + 1 : Nat) : Int) := by
  have h1 := sep_size
  generalize ((sep.size : Nat) : Int) = z at h1 ⊢
  subst h1
  exact wn h hn
theorem index_tells (s : ByteArray) : strings_Index.f s sep = some (idxI (bytesOf s)) := by
  have e : stringslite_Index.f s sep = some (Lib.indexByte s.data.toList 32) := rfl
  unfold strings_Index.f
  rw [e, idx_eq]
  rfl
theorem count_tells (s : ByteArray) : strings_Count.f s sep = some (((bytesOf s).count 32 : Nat) : Int) := by
  have e : strings_Count.f s sep = some ((Lib.countByte s.data.toList 32 : Nat) : Int) := rfl
  rw [e, cnt_eq]
  rfl
theorem take_set {α : Type} (l : List α) (i : Nat) (x : α) (h : i < l.length) : (l.set i x).take (i + 1) = l.take i ++ [x] := by
  rw [List.take_succ_eq_append_getElem (by rw [List.length_set]; exact h), List.getElem_set_self]
  congr 1
  rw [List.take_set_of_le (Nat.le_refl _)]
theorem split_go (n : Nat) (hn : n ≤ 10000000) : ∀ (d i : Nat) (s : ByteArray) (x9 : List ByteArray), d + i = n → (bytesOf s).count 32 = d → x9.length = n + 1 → s.size ≤ 10000000 →
    Ev (fun k => strings_genSplit.l0 k s sep 0 n x9 i) (x9.take i ++ (cut (bytesOf s)).map strOfNums)
  | d, i, s, x9, hd, hc, hx, hs => by
    have b0 : i ≤ n := by omega
    have b3 : n ≤ 100000000 := by omega
    have fin : (bytesOf s).count 32 = 0 → (x9.set (i : Int).toNat s).take ((i + 1 : Nat) : Int).toNat = x9.take i ++ (cut (bytesOf s)).map strOfNums := by
      intro h0
      rw [Int.toNat_natCast, Int.toNat_natCast, take_set _ _ _ (by omega), cut_none _ h0]
      simp [str_bytes]
    refine Ev.step (fun k => strings_genSplit.l0.eq_2 _ _ _ _ _ _ _) ?_
    rw [wn b0 b3]
    match d, hd, hc with
    | 0, hd, hc =>
      refine Ev.neg (by omega) (Ev.pos (by omega) (Ev.pos (by omega) (Ev.pos (by omega) (Ev.pos (by omega) (Ev.eq (Ev.now _) (fin hc))))))
    | d + 1, hd, hc =>
      obtain ⟨m, h1, h2, h3, h4⟩ := idx_hit (bytesOf s) (by omega)
      have hl : (bytesOf s).length = s.size := bytesOf_length s
      have b1 : m ≤ s.size := by omega
      have b2 : s.size ≤ 100000000 := by omega
      refine Ev.pos (by omega) (Ev.bindc (a := (m : Int)) (by rw [index_tells, h1]) ?_)
      rw [wm b1 b2, wsep b1 b2]
      refine Ev.neg (by omega) (Ev.pos (by omega) (Ev.pos (by omega) (Ev.pos (by omega) (Ev.pos (by omega) (Ev.pos (by omega) (Ev.pos (by omega) ?_))))))
      have e1 : bytesOf (s.extract (m + 1) s.size) = (bytesOf s).drop (m + 1) := by
        rw [bytesOf_extract, List.take_of_length_le (by omega)]
      have hsz : (s.extract (m + 1) s.size).size ≤ 10000000 := by
        rw [ByteArray.size_extract]
        omega
      have ih := split_go n hn d (i + 1) (s.extract (m + 1) s.size) (x9.set i (s.extract 0 m)) (by omega) (by rw [e1]; omega) (by rw [List.length_set]; exact hx) hsz
      rw [e1, take_set _ _ _ (by omega)] at ih
      rw [Int.toNat_natCast, Int.toNat_natCast, Int.toNat_natCast]
      refine Ev.eq ih ?_
      rw [h3, List.append_assoc]
      congr 1
      show s.extract 0 m :: _ = strOfNums _ :: _
      rw [piece s 0 m]
      rfl
theorem split_tells (s : ByteArray) (hs : s.size ≤ 10000000) : Ev (fun k => strings_Split.f k s sep) ((cut (bytesOf s)).map strOfNums) := by
  have hc : (bytesOf s).count 32 ≤ s.size := by
    rw [← bytesOf_length]
    exact List.count_le_length
  have hn := wn (i := (bytesOf s).count 32) (n := s.size) hc (by omega)
  have hs1 := wn (i := s.size) (n := s.size) (Nat.le_refl _) (by omega)
  refine Ev.bind (f := fun k a => some a) (g := fun k => strings_genSplit.f k s sep 0 (-1)) ?_ (Ev.now _)
  refine Ev.neg (by decide) (Ev.neg (by decide +kernel) (Ev.pos (by decide) (Ev.bindc (count_tells s) ?_)))
  rw [hn]
  refine Ev.step (fun k => strings_genSplit.j0.eq_2 _ _ _ _ _) ?_
  have hm : mn (((bytesOf s).count 32 + 1 : Nat) : Int) (wrap64 ((s.size : Int) + 1)) = (((bytesOf s).count 32 + 1 : Nat) : Int) := by
    rw [hs1]
    unfold mn
    exact if_neg (by omega)
  have h1 : wrap64 ((((bytesOf s).count 32 + 1 : Nat) : Int) - 1) = (((bytesOf s).count 32 : Nat) : Int) := by
    rw [w64 (by omega) (by omega)]
    omega
  rw [hm, h1]
  refine Ev.pos (by omega) (Ev.pos (by omega) ?_)
  have := split_go ((bytesOf s).count 32) (by omega) ((bytesOf s).count 32) 0 s (List.replicate ((((bytesOf s).count 32 + 1 : Nat) : Int)).toNat (⟨#[]⟩ : ByteArray)) (by omega) rfl (by rw [List.length_replicate]; omega) hs
  exact this
/-! ### the program's reading of a line -/
theorem read_f (p : ByteArray) (h : p.size ≤ 10000000) : quote_Read.f p = some (readS p) := if_pos (by omega)
theorem words_go (ps : List ByteArray) (hp : ∀ p ∈ ps, p.size ≤ 10000000) (hl : ps.length ≤ 20000000) : ∀ (d i : Nat) (acc : List ByteArray), d + i = ps.length → acc.length ≤ i →
    Ev (fun k => quote_Words.l0 k acc ps (ps.length : Nat) i) (endO acc (readsO (ps.drop i)))
  | 0, i, acc, hd, ha => by
    refine Ev.step (fun k => quote_Words.l0.eq_2 _ _ _ _ _) (Ev.neg (by omega) (Ev.eq (Ev.now _) ?_))
    rw [List.drop_of_length_le (by omega)]
    simp [readsO, endO]
  | d + 1, i, acc, hd, ha => by
    have hi : i < ps.length := by omega
    have hg : rdOf ByteArray.empty ps (i : Int) = ps[i] := by
      unfold rdOf
      rw [Int.toNat_natCast, List.getD_eq_getElem?_getD, List.getElem?_eq_getElem hi]
      rfl
    have hdr : ps.drop i = ps[i] :: ps.drop (i + 1) := List.drop_eq_getElem_cons hi
    have p1 : wrap64 ((i : Int) + 1) = ((i + 1 : Nat) : Int) := wn (n := ps.length) (by omega) (by omega)
    refine Ev.step (fun k => quote_Words.l0.eq_2 _ _ _ _ _) ?_
    rw [hg, p1, hdr]
    refine Ev.pos (by omega) (Ev.pos (by omega) (Ev.pos (by omega) (Ev.bindc (read_f ps[i] (hp _ (List.getElem_mem hi))) ?_)))
    refine Ev.both (fun h => Ev.pos (by omega) ?_) (fun h => Ev.eq (Ev.now _) (endO_no h).symm)
    rw [endO_yes h]
    exact words_go ps hp hl d (i + 1) _ (by omega) (by simp; omega)
def wordsS (s : ByteArray) : List ByteArray × Bool := if s.size = 0 then ([], true) else endO [] (readsO ((cut (bytesOf s)).map strOfNums))
theorem words_tells (s : ByteArray) (hs : s.size ≤ 10000000) : Ev (fun k => quote_Words.f k s) (wordsS s) := by
  unfold wordsS
  refine Ev.both (fun h => ?_) (fun h => ?_)
  · rw [if_pos (toList_eq_nil.1 h)]
    exact Ev.now _
  · rw [if_neg (fun e => h (toList_eq_nil.2 e))]
    refine Ev.bind (split_tells s hs) ?_
    have hl := cut_len (bytesOf s)
    have hc : (bytesOf s).count 32 ≤ s.size := by
      rw [← bytesOf_length]
      exact List.count_le_length
    have := words_go ((cut (bytesOf s)).map strOfNums) (fun p hp => by
      obtain ⟨q, hq, rfl⟩ := List.mem_map.1 hp
      have := (cut_pieces (bytesOf s) q hq).1
      rw [size_str]
      rw [bytesOf_length] at this
      omega) (by rw [List.length_map]; omega) ((cut (bytesOf s)).map strOfNums).length 0 [] (by omega) (by simp)
    exact this
/-! ### texts that are the same -/
theorem texts_go (l : List ByteArray) (hl : l.length ≤ 100000000) : ∀ (d i : Nat), d + i = l.length → Ev (fun k => logbookref04_Texts.l0 k l l i) true
  | 0, i, hd => Ev.step (fun k => logbookref04_Texts.l0.eq_2 _ _ _ _) (Ev.neg (by omega) (Ev.now _))
  | d + 1, i, hd => by
    refine Ev.step (fun k => logbookref04_Texts.l0.eq_2 _ _ _ _) (Ev.pos (by omega) (Ev.pos (by omega) (Ev.pos (by omega) (Ev.pos rfl ?_))))
    rw [wn (n := l.length) (by omega) hl]
    exact texts_go l hl d (i + 1) (by omega)
theorem texts_tells (l : List ByteArray) (hl : l.length ≤ 100000000) : Ev (fun k => logbookref04_Texts.f k l l) true := Ev.pos rfl (texts_go l hl l.length 0 (by omega))
theorem readsO_len : ∀ {q x : List ByteArray}, readsO q = some x → x.length = q.length
  | [], x, h => by rw [readsO] at h; rw [← Option.some.inj h]
  | p :: q, x, h => by
    rw [readsO] at h
    split at h
    · obtain ⟨y, hy, rfl⟩ := Option.map_eq_some_iff.1 h
      simp [readsO_len hy]
    · cases h
theorem wordsS_len (s : ByteArray) (hs : s.size ≤ 10000000) : (wordsS s).1.length ≤ 100000000 := by
  unfold wordsS
  split
  · simp
  · cases hr : readsO ((cut (bytesOf s)).map strOfNums) with
    | none => simp [endO]
    | some x =>
      have h1 := readsO_len hr
      have hc : (bytesOf s).count 32 ≤ s.size := by
        rw [← bytesOf_length]
        exact List.count_le_length
      rw [List.length_map, cut_len] at h1
      simp [endO]
      omega
/-! ### lines -/
def wordS (s : ByteArray) : ByteArray := strOfNums (wordL (bytesOf s))
def ws (l : List ByteArray) : List (List Int) := l.map fun s => wordL (bytesOf s)
def total : List ByteArray → Nat
  | [] => 0
  | x :: r => x.size + 1 + total r
theorem total_mem : ∀ {l : List ByteArray} {x : ByteArray}, x ∈ l → x.size + 1 ≤ total l
  | [], x, h => by simp at h
  | y :: r, x, h => by
    rw [total]
    rcases List.mem_cons.1 h with rfl | h
    · omega
    · have := total_mem h
      omega
theorem total_len : ∀ l : List ByteArray, l.length ≤ total l
  | [] => Nat.le_refl _
  | y :: r => by
    have := total_len r
    rw [total, List.length_cons]
    omega
theorem total_take : ∀ (l : List ByteArray) (i : Nat), total (l.take i) ≤ total l
  | [], i => by simp
  | y :: r, 0 => by simp [total]
  | y :: r, i + 1 => by
    have := total_take r i
    rw [List.take_succ_cons, total, total]
    omega
theorem join_len : ∀ l : List ByteArray, (joinW (ws l)).length ≤ 3 * total l
  | [] => by simp [ws, joinW]
  | [x] => by
    have h := word_len (bytesOf x)
    rw [bytesOf_length] at h
    show (wordL (bytesOf x)).length ≤ 3 * (x.size + 1 + total [])
    omega
  | x :: y :: r => by
    have h := word_len (bytesOf x)
    rw [bytesOf_length] at h
    have ih := join_len (y :: r)
    have e : (joinW (ws (x :: y :: r))).length = (wordL (bytesOf x)).length + ((joinW (ws (y :: r))).length + 1) := by
      show (wordL (bytesOf x) ++ 32 :: joinW (ws (y :: r))).length = _
      rw [List.length_append, List.length_cons]
    rw [e]
    show _ ≤ 3 * (x.size + 1 + total (y :: r))
    omega
theorem word_b (x : ByteArray) : bytesOf (wordS x) = wordL (bytesOf x) := bytes_str (word_bytes (bytesOf_bytes x))
theorem join_eq : ∀ l : List ByteArray, joinL [32] (l.map wordS) = joinW (ws l)
  | [] => rfl
  | [x] => word_b x
  | x :: y :: r => by
    have ih := join_eq (y :: r)
    show bytesOf (wordS x) ++ [32] ++ joinL [32] ((y :: r).map wordS) = wordL (bytesOf x) ++ 32 :: joinW (ws (y :: r))
    rw [ih, word_b, List.append_assoc]
    rfl
theorem ws_bytes (l : List ByteArray) : ∀ w ∈ ws l, Bytes w := by
  intro w hw
  obtain ⟨x, _, rfl⟩ := List.mem_map.1 hw
  exact word_bytes (bytesOf_bytes x)
theorem map_take_snoc (l : List ByteArray) (i : Nat) (h : i < l.length) : l.take (i + 1) = l.take i ++ [l[i]] := List.take_succ_eq_append_getElem h
def lineS (l : List ByteArray) : ByteArray := strOfNums (joinW (ws l))
theorem line_go (l : List ByteArray) (ht : total l ≤ 1048576) : ∀ (d i : Nat) (x3 : List ByteArray), d + i = l.length → x3.length = l.length → x3.take i = (l.take i).map wordS →
    Ev (fun k => quote_Line.l0 k x3 l (l.length : Nat) i) (lineS l)
  | 0, i, x3, hd, hx, he => by
    obtain rfl : i = l.length := by omega
    have e : x3 = l.map wordS := by
      rw [List.take_of_length_le (by omega), List.take_of_length_le (by omega)] at he
      exact he
    have hl := total_len l
    have hj := join_len l
    have e2 : strings_Join.f x3 sep = some (lineS l) := by
      unfold strings_Join.f
      have e3 : joinL (bytesOf sep) x3 = joinW (ws l) := by
        rw [e]
        exact join_eq l
      rw [e3]
      exact if_pos ⟨by omega, by omega⟩
    exact Ev.step (fun k => quote_Line.l0.eq_2 _ _ _ _ _) (Ev.neg (by omega) (Ev.bindc e2 (Ev.now _)))
  | d + 1, i, x3, hd, hx, he => by
    have hi : i < l.length := by omega
    have hl := total_len l
    have hm := total_mem (List.getElem_mem hi)
    have hg : rdOf ByteArray.empty l (i : Int) = l[i] := by
      unfold rdOf
      rw [Int.toNat_natCast, List.getD_eq_getElem?_getD, List.getElem?_eq_getElem hi]
      rfl
    have e : quote_Word.f l[i] = some (wordS l[i]) := if_pos (by omega)
    refine Ev.step (fun k => quote_Line.l0.eq_2 _ _ _ _ _) ?_
    rw [hg, wn (i := i) (n := l.length) (by omega) (by omega), Int.toNat_natCast]
    refine Ev.pos (by omega) (Ev.pos (by omega) (Ev.pos (by omega) (Ev.bindc e (Ev.pos (by omega) ?_))))
    refine line_go l ht d (i + 1) _ (by omega) (by rw [List.length_set]; exact hx) ?_
    rw [take_set _ _ _ (by omega), he, map_take_snoc l i hi, List.map_append]
    rfl
theorem line_tells (l : List ByteArray) (ht : total l ≤ 1048576) : Ev (fun k => quote_Line.f k l) (lineS l) := by
  have hl := total_len l
  refine Ev.pos (by omega) (Ev.pos (by omega) ?_)
  exact line_go l ht l.length 0 _ (by omega) (by rw [List.length_replicate]; omega) rfl
/-! ### the reference's line -/
theorem join_snoc : ∀ (a : List (List Int)) (w : List Int), joinW (a ++ [w]) = if a = [] then w else joinW a ++ 32 :: w
  | [], w => by simp [joinW]
  | [x], w => by simp [joinW]
  | x :: y :: r, w => by
    have ih := join_snoc (y :: r) w
    rw [if_neg (by simp)] at ih ⊢
    show x ++ 32 :: joinW ((y :: r) ++ [w]) = (x ++ 32 :: joinW (y :: r)) ++ 32 :: w
    rw [ih]
    simp
theorem ref_go (l : List ByteArray) (ht : total l ≤ 1048576) : ∀ (d i : Nat), d + i = l.length →
    Ev (fun k => logbookref31_Line.l0 k l (lineS (l.take i)) i) (lineS l)
  | 0, i, hd => by
    rw [List.take_of_length_le (by omega)]
    exact Ev.step (fun k => logbookref31_Line.l0.eq_2 _ _ _ _) (Ev.neg (by omega) (Ev.now _))
  | d + 1, i, hd => by
    have hi : i < l.length := by omega
    have hl := total_len l
    have hm := total_mem (List.getElem_mem hi)
    have hg : rdOf ByteArray.empty l (i : Int) = l[i] := by
      unfold rdOf
      rw [Int.toNat_natCast, List.getD_eq_getElem?_getD, List.getElem?_eq_getElem hi]
      rfl
    have e : logbookref31_Word.f l[i] = some (wordS l[i]) := if_pos (by omega)
    have hs : (lineS (l.take i)).size ≤ 3145728 := by
      have h1 := join_len (l.take i)
      have h2 := total_take l i
      unfold lineS
      rw [size_str]
      omega
    have hw : (wordS l[i]).size ≤ 3145729 := by
      have h1 := word_len (bytesOf l[i])
      rw [bytesOf_length] at h1
      unfold wordS
      rw [size_str]
      omega
    have hsn : ws (l.take (i + 1)) = ws (l.take i) ++ [wordL (bytesOf l[i])] := by
      rw [map_take_snoc l i hi]
      unfold ws
      rw [List.map_append]
      rfl
    have ih := ref_go l ht d (i + 1) (by omega)
    refine Ev.step (fun k => logbookref31_Line.l0.eq_2 _ _ _ _) ?_
    rw [hg, wn (i := i) (n := l.length) (by omega) (by omega)]
    refine Ev.pos (by omega) (Ev.both (fun h => ?_) (fun h => ?_))
    · refine Ev.pos (by omega) (Ev.pos (by omega) (Ev.bindc e (Ev.pos (by omega) ?_)))
      have e2 : lineS (l.take i) ++ (⟨#[32]⟩ : ByteArray) ++ wordS l[i] = lineS (l.take (i + 1)) := by
        unfold lineS wordS
        rw [hsn, join_snoc, if_neg (by
          intro e
          have := congrArg List.length e
          unfold ws at this
          rw [List.length_map, List.length_take, List.length_nil] at this
          omega), show (⟨#[32]⟩ : ByteArray) = strOfNums [32] from rfl, str_append, str_append, List.append_assoc]
        rfl
      rw [e2]
      exact ih
    · refine Ev.pos (by omega) (Ev.bindc e (Ev.pos (by omega) ?_))
      obtain rfl : i = 0 := by omega
      have e2 : lineS (l.take 0) ++ wordS l[0] = lineS (l.take (0 + 1)) := by
        unfold lineS wordS
        rw [hsn, join_snoc, if_pos (by simp [ws]), str_append]
        rfl
      rw [e2]
      exact ih
theorem ref_line (l : List ByteArray) (ht : total l ≤ 1048576) : Ev (fun k => logbookref31_Line.f k l) (lineS l) := by
  have := ref_go l ht l.length 0 (by omega)
  exact this
/-! ### what is read again -/
theorem readS_word (x : ByteArray) : readS (wordS x) = (x, true) := by
  unfold readS
  rw [word_b, read_word _ (bytesOf_bytes x), str_bytes]
theorem reads_words : ∀ l : List ByteArray, readsO (l.map wordS) = some l
  | [] => rfl
  | x :: r => by
    rw [List.map_cons, readsO, readS_word, if_pos rfl, reads_words r]
    rfl
theorem words_line (l : List ByteArray) : wordsS (lineS l) = (l, true) := by
  unfold wordsS
  by_cases hz : l = []
  · subst hz
    exact if_pos rfl
  · have hne : ws l ≠ [] := fun e => hz (List.map_eq_nil_iff.1 e)
    have hw : ∀ w ∈ ws l, w ≠ [] := by
      intro w hw
      obtain ⟨x, _, rfl⟩ := List.mem_map.1 hw
      exact word_ne _
    have hb : ∀ w ∈ ws l, ∀ c ∈ w, c ≠ 32 := by
      intro w hw
      obtain ⟨x, _, rfl⟩ := List.mem_map.1 hw
      exact word_noblank (bytesOf_bytes x)
    have hj := joinW_ne hne hw
    have hsz : (lineS l).size ≠ 0 := by
      unfold lineS
      rw [size_str]
      exact fun e => hj (List.eq_nil_of_length_eq_zero e)
    rw [if_neg hsz]
    have e1 : bytesOf (lineS l) = joinW (ws l) := bytes_str (joinW_bytes (ws_bytes l))
    have e2 : (ws l).map strOfNums = l.map wordS := by
      unfold ws
      rw [List.map_map]
      rfl
    rw [e1, cut_join _ hne hb, e2, reads_words]
    rfl
theorem lines_size (l : List ByteArray) (ht : total l ≤ 1048576) : (lineS l).size ≤ 10000000 := by
  have := join_len l
  unfold lineS
  rw [size_str]
  omega
theorem main_tells (l : List ByteArray) (ht : total l ≤ 1048576) (x : Bool) : Ev (fun k => logbooklaw31_QuoteLines.j2 k l x) true := by
  have hl := total_len l
  refine Ev.step (fun k => logbooklaw31_QuoteLines.j2.eq_2 _ _ _) (Ev.both (fun _ => Ev.bind awake_tells (Ev.now _)) (fun _ => ?_))
  have hw := words_tells (lineS l) (lines_size l ht)
  rw [words_line] at hw
  exact Ev.bind (line_tells l ht) (Ev.bind hw (Ev.bind (line_tells l ht) (Ev.bind (ref_line l ht) (Ev.pos rfl (Ev.bind (texts_tells l (by omega)) (Ev.pos rfl (Ev.pos rfl (Ev.bind awake_tells (Ev.now _)))))))))
theorem law_j1 (l : List ByteArray) (ht : total l ≤ 1048576) (x : Int) : Ev (fun k => logbooklaw31_QuoteLines.j1 k l x) true :=
  Ev.step (fun k => logbooklaw31_QuoteLines.j1.eq_2 _ _ _) (Ev.both (fun _ => main_tells l ht _) (fun _ => main_tells l ht _))
theorem law_go (l : List ByteArray) (ht : total l ≤ 1048576) : ∀ (d i : Nat) (x : Int), d + i = l.length → Ev (fun k => logbooklaw31_QuoteLines.l0 k l x i) true
  | 0, i, x, hd => Ev.step (fun k => logbooklaw31_QuoteLines.l0.eq_2 _ _ _ _) (Ev.neg (by omega) (law_j1 l ht x))
  | d + 1, i, x, hd => by
    have hl := total_len l
    refine Ev.step (fun k => logbooklaw31_QuoteLines.l0.eq_2 _ _ _ _) ?_
    rw [wn (i := i) (n := l.length) (by omega) (by omega)]
    exact Ev.pos (by omega) (Ev.both (fun _ => Ev.pos (by omega) (law_go l ht d (i + 1) _ (by omega))) (fun _ => law_j1 l ht x))
theorem law (l : List ByteArray) (ht : total l ≤ 1048576) : ∃ k, logbooklaw31_QuoteLines.f k l = some true := by
  have := law_go l ht l.length 0 0 (by omega)
  exact Ev.at this
end QL
end Go.Proofs.YtfagbgkbmikccaaDoor.Pure
namespace Go.Proofs.YtfagbgkbmikccaaDoor.PureQuoteLines
open Go.Proofs.YtfagbgkbmikccaaDoor.PQuoteLines Go.Proofs.YtfagbgkbmikccaaDoor.Opn
set_option linter.unusedVariables false
theorem total_sum : ∀ l : List ByteArray, Pure.QL.total l = sumOf (fun x : ByteArray => x.size + 1) l
  | [] => rfl
  | x :: r => by
    rw [Pure.QL.total, total_sum r]
    rfl
theorem QuoteLines (y0 : List ByteArray) (w0 : y0.length ≤ maxLen ∧ y0.length * 16 ≤ 140737488351232 ∧ ∀ x ∈ y0, x.size ≤ 140737488351232) (b0 : sumOf (fun x : ByteArray => x.size + 1) y0 + 1 ≤ 1048576) : ∃ k, logbooklaw31_QuoteLines.f k y0 = some true :=
  Pure.QL.law y0 (by rw [total_sum]; omega)
end Go.Proofs.YtfagbgkbmikccaaDoor.PureQuoteLines
