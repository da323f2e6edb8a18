/- OpWrites: which ops may be, their lines, and that these are read again: in plain Lean. -/
import Derived.Test.YtfhnmcjajpnhpaaDoorPOpWritesx7
import Derived.Test.YtfhnmcjajpnhpaaDoorWds
import Derived.Test.YtfhnmcjajpnhpaaDoorDec
import Derived.Test.YtfhnmcjajpnhpaaDoorOpen
namespace Go.Proofs.YtfhnmcjajpnhpaaDoor.Pure
open Go.RowKit Go.Proofs.YtfhnmcjajpnhpaaDoor.POpWrites Go.Proofs.YtfhnmcjajpnhpaaDoorW.PrintWords Go.Proofs.YtfhnmcjajpnhpaaDoorW.PrintLast Go.Proofs.YtfhnmcjajpnhpaaDoorW.PrintMore Go.Proofs.YtfhnmcjajpnhpaaDoor.Evs Go.Proofs.YtfhnmcjajpnhpaaDoor.Str Go.Proofs.YtfhnmcjajpnhpaaDoor.Conv Go.Proofs.YtfhnmcjajpnhpaaDoor.Quo Go.Proofs.YtfhnmcjajpnhpaaDoor.Wds Go.Proofs.YtfhnmcjajpnhpaaDoor.Dec
set_option linter.unusedVariables false
set_option linter.unusedSimpArgs false
namespace OW
theorem awake_tells : Ev (fun k => logbooklaw46_awake.f k) true := ⟨10, fun k hk => by
  obtain ⟨m, rfl⟩ : ∃ m, k = m + 10 := ⟨k - 10, by omega⟩
  have h : ∀ m, logbooklaw46_awake.f 10 = some true → logbooklaw46_awake.f (m + 10) = some true := fun m h => by
    induction m with
    | zero => exact h
    | succ m ih => rw [show m + 1 + 10 = m + 10 + 1 by omega]; exact logbooklaw46_awake.mono (m + 10) _ ih
  exact h m (by decide +kernel)⟩
theorem wn {i n : Nat} (h : i ≤ n) (hn : n ≤ 100000000) : wrap64 ((i : Int) + 1) = ((i + 1 : Nat) : Int) := by
  rw [w64 (by omega) (by omega)]
  omega
theorem wm {i n : Nat} (h : i ≤ n) (hn : n ≤ 100000000) : wrap64 ((i : Int) + 0) = (i : Int) := by
  rw [w64 (by omega) (by omega)]
  omega
/-! ### strings.Split at a blank -/
def sep : ByteArray := ⟨#[32]⟩
theorem sep_size : ((sep.size : Nat) : Int) = 1 := rfl
theorem wsep {m n : Nat} (h : m ≤ n) (hn : n ≤ 100000000) : wrap64 ((m : Int) + ((sep.size : Nat) : Int)) = ((m + 1 : Nat) : Int) := by
  have h1 := sep_size
  generalize ((sep.size : Nat) : Int) = z at h1 ⊢
  subst h1
  exact wn h hn
theorem index_tells (s : ByteArray) : strings_Index.f s sep = some (idxI (bytesOf s)) := by
  have e : stringslite_Index.f s sep = some (Lib.indexByte s.data.toList 32) := rfl
  unfold strings_Index.f
  rw [e, idx_eq]
  rfl
theorem count_tells (s : ByteArray) : strings_Count.f s sep = some (((bytesOf s).count 32 : Nat) : Int) := by
  have e : strings_Count.f s sep = some ((Lib.countByte s.data.toList 32 : Nat) : Int) := rfl
  rw [e, cnt_eq]
  rfl
theorem take_set {α : Type} (l : List α) (i : Nat) (x : α) (h : i < l.length) : (l.set i x).take (i + 1) = l.take i ++ [x] := by
  rw [List.take_succ_eq_append_getElem (by rw [List.length_set]; exact h), List.getElem_set_self]
  congr 1
  rw [List.take_set_of_le (Nat.le_refl _)]
theorem split_go (n : Nat) (hn : n ≤ 10000000) : ∀ (d i : Nat) (s : ByteArray) (x9 : List ByteArray), d + i = n → (bytesOf s).count 32 = d → x9.length = n + 1 → s.size ≤ 10000000 →
    Ev (fun k => strings_genSplit.l0 k s sep 0 n x9 i) (x9.take i ++ (cut (bytesOf s)).map strOfNums)
  | d, i, s, x9, hd, hc, hx, hs => by
    have b0 : i ≤ n := by omega
    have b3 : n ≤ 100000000 := by omega
    have fin : (bytesOf s).count 32 = 0 → (x9.set (i : Int).toNat s).take ((i + 1 : Nat) : Int).toNat = x9.take i ++ (cut (bytesOf s)).map strOfNums := by
      intro h0
      rw [Int.toNat_natCast, Int.toNat_natCast, take_set _ _ _ (by omega), cut_none _ h0]
      simp [str_bytes]
    refine Ev.step (fun k => strings_genSplit.l0.eq_2 _ _ _ _ _ _ _) ?_
    rw [wn b0 b3]
    match d, hd, hc with
    | 0, hd, hc =>
      refine Ev.neg (by omega) (Ev.pos (by omega) (Ev.pos (by omega) (Ev.pos (by omega) (Ev.pos (by omega) (Ev.eq (Ev.now _) (fin hc))))))
    | d + 1, hd, hc =>
      obtain ⟨m, h1, h2, h3, h4⟩ := idx_hit (bytesOf s) (by omega)
      have hl : (bytesOf s).length = s.size := bytesOf_length s
      have b1 : m ≤ s.size := by omega
      have b2 : s.size ≤ 100000000 := by omega
      refine Ev.pos (by omega) (Ev.bindc (a := (m : Int)) (by rw [index_tells, h1]) ?_)
      rw [wm b1 b2, wsep b1 b2]
      refine Ev.neg (by omega) (Ev.pos (by omega) (Ev.pos (by omega) (Ev.pos (by omega) (Ev.pos (by omega) (Ev.pos (by omega) (Ev.pos (by omega) ?_))))))
      have e1 : bytesOf (s.extract (m + 1) s.size) = (bytesOf s).drop (m + 1) := by
        rw [bytesOf_extract, List.take_of_length_le (by omega)]
      have hsz : (s.extract (m + 1) s.size).size ≤ 10000000 := by
        rw [ByteArray.size_extract]
        omega
      have ih := split_go n hn d (i + 1) (s.extract (m + 1) s.size) (x9.set i (s.extract 0 m)) (by omega) (by rw [e1]; omega) (by rw [List.length_set]; exact hx) hsz
      rw [e1, take_set _ _ _ (by omega)] at ih
      rw [Int.toNat_natCast, Int.toNat_natCast, Int.toNat_natCast]
      refine Ev.eq ih ?_
      rw [h3, List.append_assoc]
      congr 1
      show s.extract 0 m :: _ = strOfNums _ :: _
      rw [piece s 0 m]
      rfl
theorem split_tells (s : ByteArray) (hs : s.size ≤ 10000000) : Ev (fun k => strings_Split.f k s sep) ((cut (bytesOf s)).map strOfNums) := by
  have hc : (bytesOf s).count 32 ≤ s.size := by
    rw [← bytesOf_length]
    exact List.count_le_length
  have hn := wn (i := (bytesOf s).count 32) (n := s.size) hc (by omega)
  have hs1 := wn (i := s.size) (n := s.size) (Nat.le_refl _) (by omega)
  refine Ev.bind (f := fun k a => some a) (g := fun k => strings_genSplit.f k s sep 0 (-1)) ?_ (Ev.now _)
  refine Ev.neg (by decide) (Ev.neg (by decide +kernel) (Ev.pos (by decide) (Ev.bindc (count_tells s) ?_)))
  rw [hn]
  refine Ev.step (fun k => strings_genSplit.j0.eq_2 _ _ _ _ _) ?_
  have hm : mn (((bytesOf s).count 32 + 1 : Nat) : Int) (wrap64 ((s.size : Int) + 1)) = (((bytesOf s).count 32 + 1 : Nat) : Int) := by
    rw [hs1]
    unfold mn
    exact if_neg (by omega)
  have h1 : wrap64 ((((bytesOf s).count 32 + 1 : Nat) : Int) - 1) = (((bytesOf s).count 32 : Nat) : Int) := by
    rw [w64 (by omega) (by omega)]
    omega
  rw [hm, h1]
  refine Ev.pos (by omega) (Ev.pos (by omega) ?_)
  have := split_go ((bytesOf s).count 32) (by omega) ((bytesOf s).count 32) 0 s (List.replicate ((((bytesOf s).count 32 + 1 : Nat) : Int)).toNat (⟨#[]⟩ : ByteArray)) (by omega) rfl (by rw [List.length_replicate]; omega) hs
  exact this
/-! ### the program's reading of a line -/
theorem read_f (p : ByteArray) (h : p.size ≤ 10000000) : quote_Read.f p = some (readS p) := if_pos (by omega)
theorem words_go (ps : List ByteArray) (hp : ∀ p ∈ ps, p.size ≤ 10000000) (hl : ps.length ≤ 20000000) : ∀ (d i : Nat) (acc : List ByteArray), d + i = ps.length → acc.length ≤ i →
    Ev (fun k => quote_Words.l0 k acc ps (ps.length : Nat) i) (endO acc (readsO (ps.drop i)))
  | 0, i, acc, hd, ha => by
    refine Ev.step (fun k => quote_Words.l0.eq_2 _ _ _ _ _) (Ev.neg (by omega) (Ev.eq (Ev.now _) ?_))
    rw [List.drop_of_length_le (by omega)]
    simp [readsO, endO]
  | d + 1, i, acc, hd, ha => by
    have hi : i < ps.length := by omega
    have hg : rdOf ByteArray.empty ps (i : Int) = ps[i] := by
      unfold rdOf
      rw [Int.toNat_natCast, List.getD_eq_getElem?_getD, List.getElem?_eq_getElem hi]
      rfl
    have hdr : ps.drop i = ps[i] :: ps.drop (i + 1) := List.drop_eq_getElem_cons hi
    have p1 : wrap64 ((i : Int) + 1) = ((i + 1 : Nat) : Int) := wn (n := ps.length) (by omega) (by omega)
    refine Ev.step (fun k => quote_Words.l0.eq_2 _ _ _ _ _) ?_
    rw [hg, p1, hdr]
    refine Ev.pos (by omega) (Ev.pos (by omega) (Ev.pos (by omega) (Ev.bindc (read_f ps[i] (hp _ (List.getElem_mem hi))) ?_)))
    refine Ev.both (fun h => Ev.pos (by omega) ?_) (fun h => Ev.eq (Ev.now _) (endO_no h).symm)
    rw [endO_yes h]
    exact words_go ps hp hl d (i + 1) _ (by omega) (by simp; omega)
def wordsS (s : ByteArray) : List ByteArray × Bool := if s.size = 0 then ([], true) else endO [] (readsO ((cut (bytesOf s)).map strOfNums))
theorem words_tells (s : ByteArray) (hs : s.size ≤ 10000000) : Ev (fun k => quote_Words.f k s) (wordsS s) := by
  unfold wordsS
  refine Ev.both (fun h => ?_) (fun h => ?_)
  · rw [if_pos (toList_eq_nil.1 h)]
    exact Ev.now _
  · rw [if_neg (fun e => h (toList_eq_nil.2 e))]
    refine Ev.bind (split_tells s hs) ?_
    have hl := cut_len (bytesOf s)
    have hc : (bytesOf s).count 32 ≤ s.size := by
      rw [← bytesOf_length]
      exact List.count_le_length
    have := words_go ((cut (bytesOf s)).map strOfNums) (fun p hp => by
      obtain ⟨q, hq, rfl⟩ := List.mem_map.1 hp
      have := (cut_pieces (bytesOf s) q hq).1
      rw [size_str]
      rw [bytesOf_length] at this
      omega) (by rw [List.length_map]; omega) ((cut (bytesOf s)).map strOfNums).length 0 [] (by omega) (by simp)
    exact this
/-! ### texts that are the same -/
theorem texts_go (l : List ByteArray) (hl : l.length ≤ 100000000) : ∀ (d i : Nat), d + i = l.length → Ev (fun k => logbookref04_Texts.l0 k l l i) true
  | 0, i, hd => Ev.step (fun k => logbookref04_Texts.l0.eq_2 _ _ _ _) (Ev.neg (by omega) (Ev.now _))
  | d + 1, i, hd => by
    refine Ev.step (fun k => logbookref04_Texts.l0.eq_2 _ _ _ _) (Ev.pos (by omega) (Ev.pos (by omega) (Ev.pos (by omega) (Ev.pos rfl ?_))))
    rw [wn (n := l.length) (by omega) hl]
    exact texts_go l hl d (i + 1) (by omega)
theorem texts_tells (l : List ByteArray) (hl : l.length ≤ 100000000) : Ev (fun k => logbookref04_Texts.f k l l) true := Ev.pos rfl (texts_go l hl l.length 0 (by omega))
theorem readsO_len : ∀ {q x : List ByteArray}, readsO q = some x → x.length = q.length
  | [], x, h => by rw [readsO] at h; rw [← Option.some.inj h]
  | p :: q, x, h => by
    rw [readsO] at h
    split at h
    · obtain ⟨y, hy, rfl⟩ := Option.map_eq_some_iff.1 h
      simp [readsO_len hy]
    · cases h
theorem wordsS_len (s : ByteArray) (hs : s.size ≤ 10000000) : (wordsS s).1.length ≤ 100000000 := by
  unfold wordsS
  split
  · simp
  · cases hr : readsO ((cut (bytesOf s)).map strOfNums) with
    | none => simp [endO]
    | some x =>
      have h1 := readsO_len hr
      have hc : (bytesOf s).count 32 ≤ s.size := by
        rw [← bytesOf_length]
        exact List.count_le_length
      rw [List.length_map, cut_len] at h1
      simp [endO]
      omega
/-! ### lines -/
def wordS (s : ByteArray) : ByteArray := strOfNums (wordL (bytesOf s))
def ws (l : List ByteArray) : List (List Int) := l.map fun s => wordL (bytesOf s)
def total : List ByteArray → Nat
  | [] => 0
  | x :: r => x.size + 1 + total r
theorem total_mem : ∀ {l : List ByteArray} {x : ByteArray}, x ∈ l → x.size + 1 ≤ total l
  | [], x, h => by simp at h
  | y :: r, x, h => by
    rw [total]
    rcases List.mem_cons.1 h with rfl | h
    · omega
    · have := total_mem h
      omega
theorem total_len : ∀ l : List ByteArray, l.length ≤ total l
  | [] => Nat.le_refl _
  | y :: r => by
    have := total_len r
    rw [total, List.length_cons]
    omega
theorem total_take : ∀ (l : List ByteArray) (i : Nat), total (l.take i) ≤ total l
  | [], i => by simp
  | y :: r, 0 => by simp [total]
  | y :: r, i + 1 => by
    have := total_take r i
    rw [List.take_succ_cons, total, total]
    omega
theorem join_len : ∀ l : List ByteArray, (joinW (ws l)).length ≤ 3 * total l
  | [] => by simp [ws, joinW]
  | [x] => by
    have h := word_len (bytesOf x)
    rw [bytesOf_length] at h
    show (wordL (bytesOf x)).length ≤ 3 * (x.size + 1 + total [])
    omega
  | x :: y :: r => by
    have h := word_len (bytesOf x)
    rw [bytesOf_length] at h
    have ih := join_len (y :: r)
    have e : (joinW (ws (x :: y :: r))).length = (wordL (bytesOf x)).length + ((joinW (ws (y :: r))).length + 1) := by
      show (wordL (bytesOf x) ++ 32 :: joinW (ws (y :: r))).length = _
      rw [List.length_append, List.length_cons]
    rw [e]
    show _ ≤ 3 * (x.size + 1 + total (y :: r))
    omega
theorem word_b (x : ByteArray) : bytesOf (wordS x) = wordL (bytesOf x) := bytes_str (word_bytes (bytesOf_bytes x))
theorem join_eq : ∀ l : List ByteArray, joinL [32] (l.map wordS) = joinW (ws l)
  | [] => rfl
  | [x] => word_b x
  | x :: y :: r => by
    have ih := join_eq (y :: r)
    show bytesOf (wordS x) ++ [32] ++ joinL [32] ((y :: r).map wordS) = wordL (bytesOf x) ++ 32 :: joinW (ws (y :: r))
    rw [ih, word_b, List.append_assoc]
    rfl
theorem ws_bytes (l : List ByteArray) : ∀ w ∈ ws l, Bytes w := by
  intro w hw
  obtain ⟨x, _, rfl⟩ := List.mem_map.1 hw
  exact word_bytes (bytesOf_bytes x)
theorem map_take_snoc (l : List ByteArray) (i : Nat) (h : i < l.length) : l.take (i + 1) = l.take i ++ [l[i]] := List.take_succ_eq_append_getElem h
def lineS (l : List ByteArray) : ByteArray := strOfNums (joinW (ws l))
theorem line_go (l : List ByteArray) (ht : total l ≤ 1100000) : ∀ (d i : Nat) (x3 : List ByteArray), d + i = l.length → x3.length = l.length → x3.take i = (l.take i).map wordS →
    Ev (fun k => quote_Line.l0 k x3 l (l.length : Nat) i) (lineS l)
  | 0, i, x3, hd, hx, he => by
    obtain rfl : i = l.length := by omega
    have e : x3 = l.map wordS := by
      rw [List.take_of_length_le (by omega), List.take_of_length_le (by omega)] at he
      exact he
    have hl := total_len l
    have hj := join_len l
    have e2 : strings_Join.f x3 sep = some (lineS l) := by
      unfold strings_Join.f
      have e3 : joinL (bytesOf sep) x3 = joinW (ws l) := by
        rw [e]
        exact join_eq l
      rw [e3]
      exact if_pos ⟨by omega, by omega⟩
    exact Ev.step (fun k => quote_Line.l0.eq_2 _ _ _ _ _) (Ev.neg (by omega) (Ev.bindc e2 (Ev.now _)))
  | d + 1, i, x3, hd, hx, he => by
    have hi : i < l.length := by omega
    have hl := total_len l
    have hm := total_mem (List.getElem_mem hi)
    have hg : rdOf ByteArray.empty l (i : Int) = l[i] := by
      unfold rdOf
      rw [Int.toNat_natCast, List.getD_eq_getElem?_getD, List.getElem?_eq_getElem hi]
      rfl
    have e : quote_Word.f l[i] = some (wordS l[i]) := if_pos (by omega)
    refine Ev.step (fun k => quote_Line.l0.eq_2 _ _ _ _ _) ?_
    rw [hg, wn (i := i) (n := l.length) (by omega) (by omega), Int.toNat_natCast]
    refine Ev.pos (by omega) (Ev.pos (by omega) (Ev.pos (by omega) (Ev.bindc e (Ev.pos (by omega) ?_))))
    refine line_go l ht d (i + 1) _ (by omega) (by rw [List.length_set]; exact hx) ?_
    rw [take_set _ _ _ (by omega), he, map_take_snoc l i hi, List.map_append]
    rfl
theorem line_tells (l : List ByteArray) (ht : total l ≤ 1100000) : Ev (fun k => quote_Line.f k l) (lineS l) := by
  have hl := total_len l
  refine Ev.pos (by omega) (Ev.pos (by omega) ?_)
  exact line_go l ht l.length 0 _ (by omega) (by rw [List.length_replicate]; omega) rfl
/-! ### the reference's line -/
theorem join_snoc : ∀ (a : List (List Int)) (w : List Int), joinW (a ++ [w]) = if a = [] then w else joinW a ++ 32 :: w
  | [], w => by simp [joinW]
  | [x], w => by simp [joinW]
  | x :: y :: r, w => by
    have ih := join_snoc (y :: r) w
    rw [if_neg (by simp)] at ih ⊢
    show x ++ 32 :: joinW ((y :: r) ++ [w]) = (x ++ 32 :: joinW (y :: r)) ++ 32 :: w
    rw [ih]
    simp
theorem refl_go (l : List ByteArray) (ht : total l ≤ 1100000) : ∀ (d i : Nat), d + i = l.length →
    Ev (fun k => logbookref31_Line.l0 k l (lineS (l.take i)) i) (lineS l)
  | 0, i, hd => by
    rw [List.take_of_length_le (by omega)]
    exact Ev.step (fun k => logbookref31_Line.l0.eq_2 _ _ _ _) (Ev.neg (by omega) (Ev.now _))
  | d + 1, i, hd => by
    have hi : i < l.length := by omega
    have hl := total_len l
    have hm := total_mem (List.getElem_mem hi)
    have hg : rdOf ByteArray.empty l (i : Int) = l[i] := by
      unfold rdOf
      rw [Int.toNat_natCast, List.getD_eq_getElem?_getD, List.getElem?_eq_getElem hi]
      rfl
    have e : logbookref31_Word.f l[i] = some (wordS l[i]) := if_pos (by omega)
    have hs : (lineS (l.take i)).size ≤ 3300000 := by
      have h1 := join_len (l.take i)
      have h2 := total_take l i
      unfold lineS
      rw [size_str]
      omega
    have hw : (wordS l[i]).size ≤ 3300001 := by
      have h1 := word_len (bytesOf l[i])
      rw [bytesOf_length] at h1
      unfold wordS
      rw [size_str]
      omega
    have hsn : ws (l.take (i + 1)) = ws (l.take i) ++ [wordL (bytesOf l[i])] := by
      rw [map_take_snoc l i hi]
      unfold ws
      rw [List.map_append]
      rfl
    have ih := refl_go l ht d (i + 1) (by omega)
    refine Ev.step (fun k => logbookref31_Line.l0.eq_2 _ _ _ _) ?_
    rw [hg, wn (i := i) (n := l.length) (by omega) (by omega)]
    refine Ev.pos (by omega) (Ev.both (fun h => ?_) (fun h => ?_))
    · refine Ev.pos (by omega) (Ev.pos (by omega) (Ev.bindc e (Ev.pos (by omega) ?_)))
      have e2 : lineS (l.take i) ++ (⟨#[32]⟩ : ByteArray) ++ wordS l[i] = lineS (l.take (i + 1)) := by
        unfold lineS wordS
        rw [hsn, join_snoc, if_neg (by
          intro e
          have := congrArg List.length e
          unfold ws at this
          rw [List.length_map, List.length_take, List.length_nil] at this
          omega), show (⟨#[32]⟩ : ByteArray) = strOfNums [32] from rfl, str_append, str_append, List.append_assoc]
        rfl
      rw [e2]
      exact ih
    · refine Ev.pos (by omega) (Ev.bindc e (Ev.pos (by omega) ?_))
      obtain rfl : i = 0 := by omega
      have e2 : lineS (l.take 0) ++ wordS l[0] = lineS (l.take (0 + 1)) := by
        unfold lineS wordS
        rw [hsn, join_snoc, if_pos (by simp [ws]), str_append]
        rfl
      rw [e2]
      exact ih
theorem ref_line (l : List ByteArray) (ht : total l ≤ 1100000) : Ev (fun k => logbookref31_Line.f k l) (lineS l) := by
  have := refl_go l ht l.length 0 (by omega)
  exact this
/-! ### what is read again -/
theorem readS_word (x : ByteArray) : readS (wordS x) = (x, true) := by
  unfold readS
  rw [word_b, read_word _ (bytesOf_bytes x), str_bytes]
theorem reads_words : ∀ l : List ByteArray, readsO (l.map wordS) = some l
  | [] => rfl
  | x :: r => by
    rw [List.map_cons, readsO, readS_word, if_pos rfl, reads_words r]
    rfl
theorem words_line (l : List ByteArray) : wordsS (lineS l) = (l, true) := by
  unfold wordsS
  by_cases hz : l = []
  · subst hz
    exact if_pos rfl
  · have hne : ws l ≠ [] := fun e => hz (List.map_eq_nil_iff.1 e)
    have hw : ∀ w ∈ ws l, w ≠ [] := by
      intro w hw
      obtain ⟨x, _, rfl⟩ := List.mem_map.1 hw
      exact word_ne _
    have hb : ∀ w ∈ ws l, ∀ c ∈ w, c ≠ 32 := by
      intro w hw
      obtain ⟨x, _, rfl⟩ := List.mem_map.1 hw
      exact word_noblank (bytesOf_bytes x)
    have hj := joinW_ne hne hw
    have hsz : (lineS l).size ≠ 0 := by
      unfold lineS
      rw [size_str]
      exact fun e => hj (List.eq_nil_of_length_eq_zero e)
    rw [if_neg hsz]
    have e1 : bytesOf (lineS l) = joinW (ws l) := bytes_str (joinW_bytes (ws_bytes l))
    have e2 : (ws l).map strOfNums = l.map wordS := by
      unfold ws
      rw [List.map_map]
      rfl
    rw [e1, cut_join _ hne hb, e2, reads_words]
    rfl
theorem lines_size (l : List ByteArray) (ht : total l ≤ 1100000) : (lineS l).size ≤ 10000000 := by
  have := join_len l
  unfold lineS
  rw [size_str]
  omega
namespace Num
theorem w8 {n : Int} (h0 : 0 ≤ n) (h : n < 10) : IntKind.u64.wrap (48 + n) % 256 = 48 + n := by
  rw [wu64 (by omega) (by omega)]
  omega
theorem div10 {n : Int} (h0 : 0 ≤ n) (h1 : n ≤ 18446744073709551615) : IntKind.u64.wrap (Int.tdiv n 10) = n / 10 := by
  rw [Int.tdiv_eq_ediv_of_nonneg h0, wu64 (by omega) (by omega)]
theorem mod10 {n : Int} (h0 : 0 ≤ n) : IntKind.u64.wrap (48 + Int.tmod n 10) % 256 = 48 + n % 10 := by
  rw [Int.tmod_eq_emod_of_nonneg h0]
  exact w8 (by omega) (by omega)
theorem small_div {n m : Int} (h0 : 0 ≤ n) (h1 : n ≤ m) : 0 ≤ n / 10 ∧ n / 10 ≤ m := by omega
theorem dec_tells : ∀ (d : Nat) (n : Int), d ≤ 20 → 0 ≤ n → n ≤ 18446744073709551615 → n < 10 ^ (d + 1) → Ev (fun k => export_Decimal.f k n) (strOfNums (decF (d + 1) n))
  | d, n, hd, h0, h1, hn => by
    refine Ev.step (fun k => export_Decimal.f.eq_2 _ _) ?_
    by_cases h : n < 10
    · refine Ev.pos h ?_
      rw [w8 h0 h, decF_small h]
      exact Ev.now _
    · refine Ev.neg h ?_
      rw [decF_big h, div10 h0 h1, mod10 h0]
      match d, hn with
      | 0, hn =>
        simp at hn
        exact absurd hn h
      | d + 1, hn =>
        have hs := small_div h0 h1
        refine Ev.bind (dec_tells d (n / 10) (by omega) hs.1 hs.2 (pow_lt hn)) (Ev.bindc rfl (Ev.pos ?_ ?_))
        · rw [size_str, size_str]
          have := decF_len (d + 1) (n / 10)
          simp
          omega
        · rw [str_append]
          exact Ev.now _
theorem lt20 {n : Int} (h1 : n ≤ 18446744073709551615) : n < 10 ^ (19 + 1) := by
  have : (10 : Int) ^ (19 + 1) = 100000000000000000000 := by decide
  omega
def dec (n : Int) : List Int := decF 20 n
theorem decimal_tells (n : Int) (h0 : 0 ≤ n) (h1 : n ≤ 18446744073709551615) : Ev (fun k => export_Decimal.f k n) (strOfNums (dec n)) := dec_tells 19 n (by omega) h0 h1 (lt20 h1)

/-- The reference's: digits are put ahead. -/
theorem ref_go : ∀ (d : Nat) (n : Int) (acc : List Int), d ≤ 20 → acc.length + d ≤ 40 → 0 ≤ n → n ≤ 18446744073709551615 → n < 10 ^ d → acc ≠ [] → Bytes acc →
    Ev (fun k => logbookref32_Decimal.l0 k n (strOfNums acc)) (strOfNums ((if n = 0 then [] else decF d n) ++ acc))
  | d, n, acc, hd, hl, h0, h1, hn, hne, hb => by
    by_cases hz : n = 0
    · subst hz
      refine Ev.step (fun k => logbookref32_Decimal.l0.eq_2 _ _ _) (Ev.neg (by omega) (Ev.neg ?_ ?_))
      · intro e
        have := toList_eq_nil.1 e
        rw [size_str] at this
        exact hne (List.eq_nil_of_length_eq_zero this)
      · rw [if_pos rfl]
        exact Ev.now _
    · rw [if_neg hz]
      match d, hn with
      | 0, hn =>
        simp at hn
        omega
      | d + 1, hn =>
        have hs := small_div h0 h1
        refine Ev.step (fun k => logbookref32_Decimal.l0.eq_2 _ _ _) (Ev.pos (by omega) (Ev.bindc rfl (Ev.pos ?_ ?_)))
        · rw [size_str, size_str]
          simp
          omega
        · rw [mod10 h0, div10 h0 h1, str_append]
          have ih := ref_go d (n / 10) ((48 + n % 10) :: acc) (by omega) (by simp; omega) hs.1 hs.2 (pow_lt hn) (by simp) (by
            intro x hx
            rcases List.mem_cons.1 hx with rfl | hx
            · omega
            · exact hb x hx)
          refine Ev.eq ih ?_
          congr 1
          by_cases h : n < 10
          · rw [if_pos (by omega), decF_small h, show n % 10 = n by omega]
            rfl
          · rw [if_neg (by omega), decF_big h, List.append_assoc]
            rfl
theorem ref_decimal (n : Int) (h0 : 0 ≤ n) (h1 : n ≤ 18446744073709551615) : Ev (fun k => logbookref32_Decimal.f k n) (strOfNums (dec n)) := by
  have hs := small_div h0 h1
  have hq : n / 10 < 10 ^ 19 := pow_lt (lt20 h1)
  have ih := ref_go 19 (n / 10) [48 + n % 10] (by omega) (by simp) hs.1 hs.2 hq (by simp) (by
    intro x hx
    rw [List.mem_singleton.1 hx]
    omega)
  have hf : ∀ k, logbookref32_Decimal.f k n = logbookref32_Decimal.l0 k n (⟨#[]⟩ : ByteArray) := fun _ => rfl
  refine Ev.congr hf ?_
  have e : (if n / 10 = 0 then [] else decF 19 (n / 10)) ++ [48 + n % 10] = dec n := by
    by_cases h : n < 10
    · rw [if_pos (by omega)]
      show _ = decF 20 n
      rw [decF_small h, show n % 10 = n by omega]
      rfl
    · rw [if_neg (by omega)]
      exact (decF_big h).symm
  rw [e] at ih
  have e2 : strOfNums [48 + n % 10] ++ (⟨#[]⟩ : ByteArray) = strOfNums [48 + n % 10] := by
    apply bytesOf_inj
    rw [bytesOf_append, bytesOf_empty, List.append_nil]
  have e3 : (strOfNums [48 + n % 10]).size + (⟨#[]⟩ : ByteArray).size ≤ 9223372036854775807 := by
    rw [size_str]
    show (1 : Nat) + 0 ≤ 9223372036854775807
    decide
  by_cases hz : n > 0
  · refine Ev.step (fun k => logbookref32_Decimal.l0.eq_2 _ _ _) (Ev.pos hz (Ev.bindc rfl (Ev.pos ?_ ?_)))
    · rw [mod10 h0]
      exact e3
    · rw [mod10 h0, div10 h0 h1, e2]
      exact ih
  · refine Ev.step (fun k => logbookref32_Decimal.l0.eq_2 _ _ _) (Ev.neg hz (Ev.pos (toList_nil rfl) (Ev.bindc rfl (Ev.pos ?_ ?_))))
    · rw [mod10 h0]
      exact e3
    · rw [mod10 h0, div10 h0 h1, e2]
      exact ih

/-! ### what is read -/
theorem numGo_append : ∀ (l r : List Int) (a : Int), numGo (l ++ r) a = (numGo l a).bind fun b => numGo r b
  | [], r, a => rfl
  | c :: l, r, a => by
    simp only [List.cons_append, numGo]
    split
    · rfl
    · split
      · rfl
      · exact numGo_append l r _
theorem numGo_dec : ∀ (d : Nat) (n : Int), 0 ≤ n → n ≤ 18446744073709551615 → n < 10 ^ (d + 1) → numGo (decF (d + 1) n) 0 = some n
  | d, n, h0, h1, hn => by
    by_cases h : n < 10
    · rw [decF_small h, numGo_go (by omega) (by omega) (by omega)]
      simp only [numGo]
      congr 1
      omega
    · match d, hn with
      | 0, hn =>
        simp at hn
        exact absurd hn h
      | d + 1, hn =>
        have hs := small_div h0 h1
        rw [decF_big h, numGo_append, numGo_dec d (n / 10) hs.1 hs.2 (pow_lt hn)]
        show numGo [48 + n % 10] (n / 10) = some n
        rw [numGo_go (by omega) (by omega) (by omega)]
        simp only [numGo]
        congr 1
        omega
theorem numGo_tells : ∀ (l : List Int) (a b : Int), numGo l a = some b → 0 ≤ a → a ≤ 18446744073709551615 → Digits l ∧ b = valF a l ∧ 0 ≤ b ∧ b ≤ 18446744073709551615
  | [], a, b, h, h0, h1 => by
    injection h with h
    subst h
    exact ⟨fun x hx => absurd hx (by simp), rfl, h0, h1⟩
  | c :: l, a, b, h, h0, h1 => by
    simp only [numGo] at h
    split at h
    · cases h
    · split at h
      · cases h
      · rename_i g1 g2
        obtain ⟨p, q, r, s⟩ := numGo_tells l _ b h (by omega) (by omega)
        refine ⟨fun x hx => ?_, q, r, s⟩
        rcases List.mem_cons.1 hx with rfl | hx
        · omega
        · exact p x hx
theorem dec_of_numGo {l : List Int} {b : Int} (h : numGo l 0 = some b) (hne : l ≠ []) (hl : l.length ≤ 20) (hz : ∀ c r, l = c :: r → c = 48 → r = []) : dec b = l := by
  obtain ⟨h1, h2, _, _⟩ := numGo_tells l 0 b h (by omega) (by omega)
  rw [h2]
  exact dec_valF 20 l hl hne h1 hz
theorem dec_facts (n : Int) (h0 : 0 ≤ n) (h1 : n ≤ 18446744073709551615) : dec n ≠ [] ∧ (dec n).length ≤ 20 ∧ (∀ c r, dec n = c :: r → c = 48 → r = []) ∧ Bytes (dec n) := by
  refine ⟨decF_ne 19 n, decF_len 20 n, fun c r e hc => ?_, decF_Bytes 20 n h0⟩
  by_cases hz : n < 1
  · have : dec n = [48 + n] := decF_small (by omega)
    rw [this] at e
    injection e with _ e
    exact e.symm
  · obtain ⟨c', r', e', hc'⟩ := decF_head 20 n (by omega) (lt20 h1)
    have e2 : c' :: r' = c :: r := e'.symm.trans e
    injection e2 with e3 _
    exact absurd (e3.trans hc) hc'
/-- What the program reads. -/
theorem number_yes (n : Int) (h0 : 0 ≤ n) (h1 : n ≤ 18446744073709551615) : export_Number.f (strOfNums (dec n)) = some (n, true) := by
  obtain ⟨f1, f2, f3, f4⟩ := dec_facts n h0 h1
  unfold export_Number.f
  have hs := size_str (dec n)
  rw [if_neg (by rw [hs]; exact fun e => f1 (List.eq_nil_of_length_eq_zero e)), if_neg (by rw [hs]; omega), if_neg, bytes_str f4]
  · rw [show numGo (dec n) 0 = some n from numGo_dec 19 n h0 h1 (lt20 h1)]
  · rintro ⟨e1, e2⟩
    rw [hs] at e2
    have e3 : bt (strOfNums (dec n)) ((0 : Nat) : Int) = (dec n).getD 0 0 := by rw [bt_get, bytes_str f4]
    match hh : dec n, f1 with
    | c :: r, _ =>
      rw [hh] at e2 e3
      have := f3 c r hh (by
        rw [← hh] at e3
        rw [hh] at e3
        have e4 : bt (strOfNums (c :: r)) 0 = c := by simpa [hh] using e3
        rw [hh] at e1
        rw [← e1]
        exact e4.symm)
      rw [this] at e2
      simp at e2
theorem number_no (s : ByteArray) (h : ∀ n, 0 ≤ n → n ≤ 18446744073709551615 → dec n ≠ bytesOf s) : export_Number.f s = some (0, false) := by
  unfold export_Number.f
  split
  · rfl
  · rename_i g1
    split
    · rfl
    · rename_i g2
      split
      · rfl
      · rename_i g3
        cases hh : numGo (bytesOf s) 0 with
        | none => rfl
        | some b =>
          obtain ⟨_, _, b0, b1⟩ := numGo_tells _ 0 b hh (by omega) (by omega)
          refine absurd (dec_of_numGo hh (bytesOf_cons_size g1) (by rw [bytesOf_length]; omega) (fun c r e hc => ?_)) (h b b0 b1)
          have e1 : bt s ((0 : Nat) : Int) = c := by rw [bt_get, e]; rfl
          match r, e with
          | [], _ => rfl
          | x :: r, e =>
            refine absurd ⟨?_, ?_⟩ g3
            · exact e1.trans hc
            · rw [← bytesOf_length, e]
              simp
end Num
/-! ### kinds, and what they take -/
def takesS (kd : Int) : Int × Int × Int := (op_takes.f 3 kd).getD (0, 0, 0)
theorem j1_some (x : Int) (b : Bool) : ∃ r, op_takes.j1 (0 + 1) x b = some r := by
  rw [op_takes.j1.eq_2]
  split
  · exact ⟨_, rfl⟩
  · split <;> exact ⟨_, rfl⟩
theorem j0_some (x : Int) (b : Bool) : ∃ r, op_takes.j0 (1 + 1) x b = some r := by
  rw [op_takes.j0.eq_2]
  repeat' (first | exact ⟨_, rfl⟩ | exact j1_some _ _ | split)
theorem takes_some (kd : Int) : op_takes.f 3 kd = some (takesS kd) := by
  have h : ∃ r, op_takes.f 3 kd = some r := by
    unfold op_takes.f
    have j0 := fun x b => j0_some x b
    repeat' (first | exact ⟨_, rfl⟩ | (have z : ∀ x b, ∃ r, op_takes.j0 3 x b = some r := (fun x b => by
      obtain ⟨r, hr⟩ := j0_some x b
      exact ⟨r, (op_takes.mono_l 2).1 x b r hr⟩); exact z _ _) | split)
  obtain ⟨r, h⟩ := h
  unfold takesS
  rw [h]
  rfl
theorem takes_tells (kd : Int) : Ev (fun k => op_takes.f k kd) (takesS kd) := Ev.of (fun k => op_takes.mono kd k) (takes_some kd)
def RW : List S39 := (logbookref46_Rows.f).getD []
theorem rows_some : logbookref46_Rows.f = some RW := rfl
theorem RW_len : RW.length = 33 := rfl
def nameAt (q : Nat) : ByteArray := opNames.getD (q + 1) ⟨#[]⟩
theorem RW_row : ∀ i : Fin 33, (rd_T39 RW (i.val : Int)).f0.data = (nameAt i.val).data ∧ ((rd_T39 RW (i.val : Int)).f1, (rd_T39 RW (i.val : Int)).f2, (rd_T39 RW (i.val : Int)).f3) = takesS ((i.val : Int) + 1) := by decide +kernel
theorem RW_name (q : Nat) (h : q < 33) : (rd_T39 RW (q : Int)).f0 = nameAt q := congrArg ByteArray.mk (RW_row ⟨q, h⟩).1
theorem RW_takes (q : Nat) (h : q < 33) : (rd_T39 RW (q : Int)).f1 = (takesS ((q : Int) + 1)).1 ∧ (rd_T39 RW (q : Int)).f2 = (takesS ((q : Int) + 1)).2.1 ∧ (rd_T39 RW (q : Int)).f3 = (takesS ((q : Int) + 1)).2.2 := by
  have := (RW_row ⟨q, h⟩).2
  rw [← this]
  exact ⟨rfl, rfl, rfl⟩
theorem takes_in : ∀ i : Fin 34, 0 ≤ (takesS (i.val : Int)).1 ∧ (takesS (i.val : Int)).1 ≤ 2 := by decide +kernel
theorem takes_8 : takesS 8 = (0, 1, 1) := by decide +kernel
theorem names_apart : ∀ i j : Fin 33, i ≠ j → (nameAt i.val).data ≠ (nameAt j.val).data := by decide +kernel
theorem names_small : ∀ i : Fin 33, (nameAt i.val).size ≤ 20 := by decide +kernel
/-! ### which ops may be -/
def rightS (kd : Int) (n : Nat) (ts : List ByteArray) : Bool :=
  if kd < 1 ∨ kd > 33 then false else if (n : Int) ≠ (takesS kd).1 ∨ (ts.length : Int) < (takesS kd).2.1 ∨ (ts.length : Int) > (takesS kd).2.2 then false else if kd = 8 then (bytesOf (ts.getD 0 ByteArray.empty)).all bitB else true
theorem rightS_1 {kd : Int} {n : Nat} {ts : List ByteArray} (h : kd < 1 ∨ kd > 33) : rightS kd n ts = false := if_pos h
theorem rightS_2 {kd : Int} {n : Nat} {ts : List ByteArray} (h : ¬ (kd < 1 ∨ kd > 33)) (h2 : (n : Int) ≠ (takesS kd).1 ∨ (ts.length : Int) < (takesS kd).2.1 ∨ (ts.length : Int) > (takesS kd).2.2) : rightS kd n ts = false := by
  unfold rightS
  rw [if_neg h, if_pos h2]
theorem rightS_3 {kd : Int} {n : Nat} {ts : List ByteArray} (h : ¬ (kd < 1 ∨ kd > 33)) (h2 : ¬ ((n : Int) ≠ (takesS kd).1 ∨ (ts.length : Int) < (takesS kd).2.1 ∨ (ts.length : Int) > (takesS kd).2.2)) (h8 : kd = 8) : rightS kd n ts = (bytesOf (ts.getD 0 ByteArray.empty)).all bitB := by
  unfold rightS
  rw [if_neg h, if_neg h2, if_pos h8]
theorem rightS_4 {kd : Int} {n : Nat} {ts : List ByteArray} (h : ¬ (kd < 1 ∨ kd > 33)) (h2 : ¬ ((n : Int) ≠ (takesS kd).1 ∨ (ts.length : Int) < (takesS kd).2.1 ∨ (ts.length : Int) > (takesS kd).2.2)) (h8 : ¬ kd = 8) : rightS kd n ts = true := by
  unfold rightS
  rw [if_neg h, if_neg h2, if_neg h8]
theorem right_tells (kd : Int) (ns : List Int) (ts : List ByteArray) (hz : (ts.getD 0 ByteArray.empty).size ≤ 100000000) : Ev (fun k => op_Op_Right.f k kd ns ts) (rightS kd ns.length ts) := by
  refine Ev.bind (takes_tells kd) ?_
  by_cases h1 : kd < 1
  · rw [rightS_1 (.inl h1)]
    exact Ev.pos h1 (Ev.now _)
  refine Ev.neg h1 ?_
  by_cases h2 : kd > 33
  · rw [rightS_1 (.inr h2)]
    exact Ev.pos h2 (Ev.now _)
  have h12 : ¬ (kd < 1 ∨ kd > 33) := by omega
  refine Ev.neg h2 ?_
  by_cases h3 : (ns.length : Int) = (takesS kd).1
  case neg =>
    rw [rightS_2 h12 (.inl h3)]
    exact Ev.neg h3 (Ev.now _)
  refine Ev.pos h3 ?_
  by_cases h4 : (ts.length : Int) < (takesS kd).2.1
  · rw [rightS_2 h12 (.inr (.inl h4))]
    exact Ev.pos h4 (Ev.now _)
  refine Ev.neg h4 ?_
  by_cases h5 : (ts.length : Int) > (takesS kd).2.2
  · rw [rightS_2 h12 (.inr (.inr h5))]
    exact Ev.pos h5 (Ev.now _)
  refine Ev.neg h5 ?_
  have h345 : ¬ ((ns.length : Int) ≠ (takesS kd).1 ∨ (ts.length : Int) < (takesS kd).2.1 ∨ (ts.length : Int) > (takesS kd).2.2) := by
    rintro (h | h | h)
    · exact h h3
    · exact h4 h
    · exact h5 h
  by_cases h8 : kd = 8
  · rw [rightS_3 h12 h345 h8]
    subst h8
    rw [takes_8] at h4
    have hl : (0 : Int) < (ts.length : Int) := by
      have : ¬ (ts.length : Int) < 1 := h4
      omega
    have hx : op_bits.f (rdOf ByteArray.empty ts 0) = some ((bytesOf (ts.getD 0 ByteArray.empty)).all bitB) := by
      unfold op_bits.f
      exact if_pos (Nat.le_trans hz (by decide))
    exact Ev.pos rfl (Ev.pos hl (Ev.bindc hx (Ev.now _)))
  · rw [rightS_4 h12 h345 h8]
    exact Ev.neg h8 (Ev.now _)
theorem rbits_go (ns : List Int) (ts : List ByteArray) (hl : 0 < ts.length) (hz : (ts.getD 0 ByteArray.empty).size ≤ 100000000) : ∀ (d i : Nat), d + i = (ts.getD 0 ByteArray.empty).size →
    Ev (fun k => logbookref46_Right.l0 k i 8 ns ts) (((bytesOf (ts.getD 0 ByteArray.empty)).drop i).all bitB)
  | 0, i, hd => by
    have e : rdOf ByteArray.empty ts 0 = ts.getD 0 ByteArray.empty := rfl
    rw [List.drop_of_length_le (by rw [bytesOf_length]; omega)]
    refine Ev.step (fun k => logbookref46_Right.l0.eq_2 _ _ _ _ _) (Ev.pos rfl (Ev.pos (by omega) (Ev.step (fun k => logbookref46_Right.j3.eq_2 _ _ _ _ _ _) (Ev.neg ?_ (Ev.now _)))))
    rw [e, decide_eq_true_eq]
    omega
  | d + 1, i, hd => by
    have e : rdOf ByteArray.empty ts 0 = ts.getD 0 ByteArray.empty := rfl
    have hi : i < (ts.getD 0 ByteArray.empty).size := by omega
    have ih := rbits_go ns ts hl hz d (i + 1) (by omega)
    refine Ev.step (fun k => logbookref46_Right.l0.eq_2 _ _ _ _ _) (Ev.pos rfl (Ev.pos (by omega) (Ev.step (fun k => logbookref46_Right.j3.eq_2 _ _ _ _ _ _) (Ev.pos ?_ (Ev.pos (by omega) (Ev.pos (by omega) (Ev.pos ?_ ?_)))))))
    · rw [e, decide_eq_true_eq]
      omega
    · rw [e]
      omega
    · rw [e, wn (n := (ts.getD 0 ByteArray.empty).size) (by omega) hz, bt_drop _ _ hi, List.all_cons]
      refine Ev.both (fun h => ?_) (fun h => Ev.both (fun h2 => ?_) (fun h2 => Ev.eq (Ev.now _) ?_))
      · rw [bitB_yes (.inl h), Bool.true_and]
        exact ih
      · rw [bitB_yes (.inr h2), Bool.true_and]
        exact ih
      · rw [bitB_no (by omega), Bool.false_and]
theorem refright_tells (kd : Int) (h0 : -9223372036854775808 ≤ kd) (h1 : kd ≤ 9223372036854775807) (ns : List Int) (ts : List ByteArray) (hz : (ts.getD 0 ByteArray.empty).size ≤ 100000000) : Ev (fun k => logbookref46_Right.f k kd ns ts) (rightS kd ns.length ts) := by
  refine Ev.bindc rows_some ?_
  by_cases c1 : kd < 1
  · rw [rightS_1 (.inl c1)]
    exact Ev.pos c1 (Ev.step (fun k => logbookref46_Right.j0.eq_2 _ _ _ _ _ _) (Ev.pos rfl (Ev.now _)))
  refine Ev.neg c1 ?_
  rw [RW_len]
  by_cases c2 : kd > 33
  · rw [rightS_1 (.inr c2)]
    refine Ev.step (fun k => logbookref46_Right.j0.eq_2 _ _ _ _ _ _) (Ev.pos ?_ (Ev.now _))
    exact decide_eq_true (by omega)
  have h12 : ¬ (kd < 1 ∨ kd > 33) := by omega
  obtain ⟨q, rfl⟩ : ∃ q : Nat, kd = (q : Int) + 1 := ⟨(kd - 1).toNat, by omega⟩
  have hq : q < 33 := by omega
  have ew : wrap64 ((q : Int) + 1 - 1) = (q : Int) := by
    rw [w64 (by omega) (by omega)]
    omega
  obtain ⟨t1, t2, t3⟩ := RW_takes q hq
  refine Ev.step (fun k => logbookref46_Right.j0.eq_2 _ _ _ _ _ _) (Ev.neg ?_ ?_)
  · rw [decide_eq_true_eq]
    omega
  rw [ew, RW_len, t1, t2, t3]
  refine Ev.pos (by omega) (Ev.pos (by omega) ?_)
  have bad : Ev (fun k => logbookref46_Right.j1 k true ((q : Int) + 1) ns ts) false := Ev.step (fun k => logbookref46_Right.j1.eq_2 _ _ _ _ _) (Ev.pos rfl (Ev.now _))
  by_cases h3 : (ns.length : Int) = (takesS ((q : Int) + 1)).1
  case neg =>
    rw [rightS_2 h12 (.inl h3)]
    exact Ev.neg h3 bad
  refine Ev.pos h3 ?_
  by_cases h4 : (ts.length : Int) < (takesS ((q : Int) + 1)).2.1
  · rw [rightS_2 h12 (.inr (.inl h4))]
    exact Ev.pos h4 bad
  refine Ev.neg h4 ?_
  by_cases h5 : (ts.length : Int) > (takesS ((q : Int) + 1)).2.2
  · rw [rightS_2 h12 (.inr (.inr h5)), decide_eq_true h5]
    exact bad
  have h345 : ¬ ((ns.length : Int) ≠ (takesS ((q : Int) + 1)).1 ∨ (ts.length : Int) < (takesS ((q : Int) + 1)).2.1 ∨ (ts.length : Int) > (takesS ((q : Int) + 1)).2.2) := by
    rintro (h | h | h)
    · exact h h3
    · exact h4 h
    · exact h5 h
  rw [decide_eq_false h5]
  refine Ev.step (fun k => logbookref46_Right.j1.eq_2 _ _ _ _ _) (Ev.neg (by simp) ?_)
  by_cases h8 : (q : Int) + 1 = 8
  · rw [rightS_3 h12 h345 h8]
    rw [h8] at h4 ⊢
    rw [takes_8] at h4
    have hl : 0 < ts.length := by
      have : ¬ (ts.length : Int) < 1 := h4
      omega
    have := rbits_go ns ts hl hz (ts.getD 0 ByteArray.empty).size 0 (by omega)
    exact this
  · rw [rightS_4 h12 h345 h8]
    exact Ev.step (fun k => logbookref46_Right.l0.eq_2 _ _ _ _ _) (Ev.neg h8 (Ev.step (fun k => logbookref46_Right.j3.eq_2 _ _ _ _ _ _) (Ev.neg (by simp) (Ev.now _))))
/-! ### the kind of a word -/
def kFrom (w : ByteArray) : Nat → Nat → Nat
  | 0, _ => 0
  | d + 1, i => if (opNames.getD i ⟨#[]⟩).toList = w.toList then i else kFrom w d (i + 1)
theorem kFrom_in (w : ByteArray) : ∀ d i, d + i = 34 → kFrom w d i ≤ 33
  | 0, i, hd => by simp [kFrom]
  | d + 1, i, hd => by
    rw [kFrom]
    split
    · omega
    · exact kFrom_in w d (i + 1) (by omega)
theorem kind_go (w : ByteArray) : ∀ (d i : Nat), d + i = 34 → Ev (fun k => op_kind.l0 k w i) (kFrom w d i : Nat)
  | 0, i, hd => Ev.step (fun k => op_kind.l0.eq_2 _ _ _) (Ev.neg (by omega) (Ev.now _))
  | d + 1, i, hd => by
    have e : op_Name.f (i : Int) = some (opNames.getD i ⟨#[]⟩) := by
      unfold op_Name.f
      rw [if_pos (by omega), Int.toNat_natCast]
    have ih := kind_go w d (i + 1) (by omega)
    rw [kFrom]
    refine Ev.step (fun k => op_kind.l0.eq_2 _ _ _) (Ev.pos (by omega) (Ev.bindc e (Ev.both (fun h => ?_) (fun h => ?_))))
    · rw [if_pos h]
      exact Ev.now _
    · rw [if_neg h, wn (n := 33) (by omega) (by omega)]
      exact ih
theorem kind_tells (w : ByteArray) : Ev (fun k => op_kind.f k w) (kFrom w 33 1 : Nat) := kind_go w 33 1 (by omega)
/-! ### numbers of words -/
theorem num_cases (x : ByteArray) : (∃ n, 0 ≤ n ∧ n ≤ 18446744073709551615 ∧ Num.dec n = bytesOf x ∧ numOf x = (n, true)) ∨ ((∀ n, 0 ≤ n → n ≤ 18446744073709551615 → Num.dec n ≠ bytesOf x) ∧ numOf x = (0, false)) := by
  by_cases hex : ∃ n, 0 ≤ n ∧ n ≤ 18446744073709551615 ∧ Num.dec n = bytesOf x
  · obtain ⟨n, h0, h1, e⟩ := hex
    refine .inl ⟨n, h0, h1, e, ?_⟩
    have h := Num.number_yes n h0 h1
    rw [e, str_bytes, numOf_eq] at h
    exact Option.some.inj h
  · have hno : ∀ n, 0 ≤ n → n ≤ 18446744073709551615 → Num.dec n ≠ bytesOf x := fun n h0 h1 e => hex ⟨n, h0, h1, e⟩
    refine .inr ⟨hno, ?_⟩
    have h := Num.number_no x hno
    rw [numOf_eq] at h
    exact Option.some.inj h
theorem num_range (x : ByteArray) : 0 ≤ (numOf x).1 ∧ (numOf x).1 ≤ 18446744073709551615 := by
  rcases num_cases x with ⟨n, h0, h1, _, e⟩ | ⟨_, e⟩
  · rw [e]
    exact ⟨h0, h1⟩
  · rw [e]
    decide
def decB (n : Int) : ByteArray := strOfNums (Num.dec n)
theorem num_dec (x : ByteArray) : decB (numOf x).1 = x ↔ (numOf x).2 = true := by
  rcases num_cases x with ⟨n, h0, h1, h2, e⟩ | ⟨h2, e⟩
  · rw [e]
    simp only [iff_true]
    unfold decB
    rw [h2, str_bytes]
  · rw [e]
    simp only [Bool.false_eq_true, iff_false]
    intro h
    refine h2 0 (by omega) (by omega) ?_
    rw [← h]
    exact (bytes_str (Num.dec_facts 0 (by omega) (by omega)).2.2.2).symm
theorem decB_size (n : Int) (h0 : 0 ≤ n) (h1 : n ≤ 18446744073709551615) : (decB n).size ≤ 20 := by
  unfold decB
  rw [size_str]
  exact (Num.dec_facts n h0 h1).2.1
theorem decs_tells : ∀ (l : List Int), (∀ n ∈ l, 0 ≤ n ∧ n ≤ 18446744073709551615) → Ev (fun k => decsF k l) (l.map decB)
  | [], _ => Ev.congr (fun k => decsF.eq_1 k) (Ev.now _)
  | n :: r, h => by
    obtain ⟨h0, h1⟩ := h n (by simp)
    exact Ev.congr (fun k => decsF.eq_2 k n r) (Ev.bind (Num.ref_decimal n h0 h1) (Ev.bind (decs_tells r (fun m hm => h m (List.mem_cons_of_mem _ hm))) (Ev.now _)))
theorem total_app : ∀ a b : List ByteArray, total (a ++ b) = total a + total b
  | [], b => by simp [total]
  | x :: a, b => by
    rw [List.cons_append, total, total, total_app a b]
    omega
theorem total_decs : ∀ (l : List Int), (∀ n ∈ l, 0 ≤ n ∧ n ≤ 18446744073709551615) → total (l.map decB) ≤ 21 * l.length
  | [], _ => by simp [total]
  | n :: r, h => by
    have h1 := decB_size n (h n (by simp)).1 (h n (by simp)).2
    have h2 := total_decs r (fun m hm => h m (List.mem_cons_of_mem _ hm))
    rw [List.map_cons, total, List.length_cons]
    omega
theorem refline_tells (q : Nat) (hq : q < 33) (ns : List Int) (hns : ∀ n ∈ ns, 0 ≤ n ∧ n ≤ 18446744073709551615) (ts : List ByteArray) (hn : ns.length ≤ 20) (hlen : ns.length + ts.length ≤ 1000000) (ht : total ts ≤ 1090000) :
    Ev (fun k => logbookref46_Line.f k ((q : Int) + 1) ns ts) (lineS ([nameAt q] ++ ns.map decB ++ ts)) := by
  have hl := total_len ts
  refine Ev.pos ⟨by omega, by omega, by omega⟩ (Ev.bindc rows_some (Ev.bind (decs_tells ns hns) ?_))
  rw [show (q : Int) + 1 - 1 = (q : Int) by omega, RW_name q hq]
  have hd := total_decs ns hns
  have hs := names_small ⟨q, hq⟩
  refine ref_line _ ?_
  rw [total_app, total_app, total, total]
  have : (nameAt q).size ≤ 20 := hs
  omega
/-! ### what is read was written so -/
theorem join_cut : ∀ l : List Int, joinW (cut l) = l
  | [] => rfl
  | c :: r => by
    have ih := join_cut r
    by_cases h : c = 32
    · subst h
      rw [cut_blank]
      match hr : cut r, cut_ne r with
      | p :: q, _ =>
        rw [hr] at ih
        rw [joinW, ih]
        rfl
    · match hr : cut r, cut_ne r with
      | p :: q, _ =>
        rw [cut_other h hr]
        rw [hr] at ih
        match q, ih with
        | [], ih =>
          rw [joinW] at ih ⊢
          rw [ih]
        | y :: z, ih =>
          rw [joinW] at ih ⊢
          rw [List.cons_append, ih]
theorem readS_yes {p : ByteArray} (h : (readS p).2 = true) : wordL (bytesOf (readS p).1) = bytesOf p := by
  have e := read_tells (bytesOf p) (bytesOf_bytes p)
  have hl := loose_bytes _ (bytesOf p) (Nat.le_refl _) (bytesOf_bytes p)
  unfold readS at h ⊢
  rw [e] at h ⊢
  by_cases g : wordL (looseL (bytesOf p)) = bytesOf p
  · rw [if_pos g]
    show wordL (bytesOf (strOfNums (looseL (bytesOf p)))) = _
    rw [bytes_str hl, g]
  · rw [if_neg g] at h
    cases h
theorem reads_back : ∀ (ps x : List ByteArray), readsO ps = some x → ws x = ps.map bytesOf
  | [], x, h => by
    rw [readsO] at h
    rw [← Option.some.inj h]
    rfl
  | p :: q, x, h => by
    rw [readsO] at h
    split at h
    · rename_i g
      obtain ⟨y, hy, rfl⟩ := Option.map_eq_some_iff.1 h
      have ih := reads_back q y hy
      unfold ws at ih ⊢
      rw [List.map_cons, List.map_cons, ih, readS_yes g]
    · cases h
theorem words_back (s : ByteArray) (x : List ByteArray) (h : wordsS s = (x, true)) : lineS x = s := by
  unfold wordsS at h
  by_cases hz : s.size = 0
  · rw [if_pos hz] at h
    injection h with h _
    subst h
    apply bytesOf_inj
    have : bytesOf s = [] := List.eq_nil_of_length_eq_zero (by rw [bytesOf_length]; exact hz)
    rw [this]
    rfl
  · rw [if_neg hz] at h
    cases hr : readsO ((cut (bytesOf s)).map strOfNums) with
    | none =>
      rw [hr] at h
      cases h
    | some y =>
      rw [hr] at h
      injection h with h _
      obtain rfl : y = x := by simpa [endO] using h
      have hb := reads_back _ _ hr
      have e : ((cut (bytesOf s)).map strOfNums).map bytesOf = cut (bytesOf s) := by
        rw [List.map_map]
        conv => rhs; rw [← List.map_id (cut (bytesOf s))]
        exact List.map_congr_left fun p hp => bytes_str ((cut_pieces (bytesOf s) p hp).2 (bytesOf_bytes s))
      unfold lineS
      rw [hb, e, join_cut, str_bytes]
theorem encB_ge (c : Int) : 1 ≤ (encB c).length := by
  have := encB_ne c
  cases h : encB c
  · exact absurd h this
  · simp
theorem flat_ge : ∀ l : List Int, l.length ≤ (l.flatMap encB).length
  | [] => by simp
  | c :: r => by
    have h1 := encB_ge c
    have h2 := flat_ge r
    rw [List.flatMap_cons, List.length_append, List.length_cons]
    omega
theorem word_ge (l : List Int) : l.length ≤ (wordL l).length := by
  unfold wordL
  split
  · rename_i h
    rw [h]
    simp
  · exact flat_ge l
theorem total_join : ∀ l : List ByteArray, total l ≤ (joinW (ws l)).length + 1
  | [] => by simp [total]
  | [x] => by
    have h := word_ge (bytesOf x)
    rw [bytesOf_length] at h
    show x.size + 1 + 0 ≤ (wordL (bytesOf x)).length + 1
    omega
  | x :: y :: r => by
    have h := word_ge (bytesOf x)
    rw [bytesOf_length] at h
    have ih := total_join (y :: r)
    show x.size + 1 + total (y :: r) ≤ (wordL (bytesOf x) ++ 32 :: joinW (ws (y :: r))).length + 1
    rw [List.length_append, List.length_cons]
    omega
theorem total_words (s : ByteArray) (x : List ByteArray) (h : wordsS s = (x, true)) : total x ≤ s.size + 1 := by
  have h1 := total_join x
  have h2 := words_back s x h
  have h3 : (lineS x).size = (joinW (ws x)).length := by
    unfold lineS
    rw [size_str]
  rw [h2] at h3
  omega
theorem line_inj {a b : List ByteArray} (h : lineS a = lineS b) : a = b := by
  have h1 := words_line a
  have h2 := words_line b
  rw [h, h2] at h1
  injection h1 with h1 _
  exact h1.symm
/-! ### the op of words -/
def mid (n : Nat) (x : List ByteArray) : List ByteArray := (x.take (1 + n)).drop 1
def parseAt (kd : Nat) (x : List ByteArray) : Option (Int × List Int × List ByteArray) :=
  if x.length < 1 + (takesS (kd : Int)).1.toNat then none else
  if opsOk (mid (takesS (kd : Int)).1.toNat x) = true then
    if rightS kd (mid (takesS (kd : Int)).1.toNat x).length (x.drop (1 + (takesS (kd : Int)).1.toNat)) = true then some (kd, opNums (mid (takesS (kd : Int)).1.toNat x), x.drop (1 + (takesS (kd : Int)).1.toNat)) else none
  else none
def progOf : Option (Int × List Int × List ByteArray) → Int × List Int × List ByteArray × Int
  | none => (0, [], [], 1)
  | some (a, b, c) => (a, b, c, 0)
def refOf : Option (Int × List Int × List ByteArray) → Int × List Int × List ByteArray × Bool
  | none => (0, [], [], false)
  | some (a, b, c) => (a, b, c, true)
theorem nums_range (l : List ByteArray) : ∀ n ∈ opNums l, 0 ≤ n ∧ n ≤ 18446744073709551615 := by
  intro n hn
  unfold opNums at hn
  obtain ⟨x, _, rfl⟩ := List.mem_map.1 hn
  exact num_range x
theorem mem_size {x : List ByteArray} {p : ByteArray} (h : p ∈ x) (ht : total x ≤ 3001) : p.size ≤ 3000 := by
  have := total_mem h
  omega
theorem get0_size (x : List ByteArray) (ht : total x ≤ 2000000) (n : Nat) : ((x.drop n).getD 0 ByteArray.empty).size ≤ 100000000 := by
  rw [List.getD_eq_getElem?_getD]
  cases h : (x.drop n)[0]? with
  | none => decide
  | some p =>
    have := total_mem (List.mem_of_mem_drop (List.mem_of_getElem? h))
    show p.size ≤ 100000000
    omega
theorem prog_parse (s : ByteArray) (hs : s.size ≤ 10000000) (x : List ByteArray) (hw : wordsS s = (x, true)) (ht : total x ≤ 2000000) (hx : x ≠ []) : Ev (fun k => op_Parse.f k s) (progOf (parseAt (kFrom (x.getD 0 ByteArray.empty) 33 1) x)) := by
  have hl : x.length ≠ 0 := fun e => hx (List.eq_nil_of_length_eq_zero e)
  have hwt := words_tells s (by omega)
  rw [hw] at hwt
  have hnb : ¬ ((x, true).2 = false ∨ (x, true).1.length = 0) := fun h => h.elim (fun h => by cases h) hl
  refine Ev.bind hwt (Ev.neg hnb (Ev.bind (kind_tells _) ?_))
  have hk := kFrom_in (x.getD 0 ByteArray.empty) 33 1 (by omega)
  generalize kFrom (x.getD 0 ByteArray.empty) 33 1 = kd at hk ⊢
  obtain ⟨t0, t1⟩ := takes_in ⟨kd, by omega⟩
  refine Ev.bind (takes_tells _) (Ev.pos ⟨t0, t1⟩ ?_)
  unfold parseAt
  simp only at t0 t1
  have hn : ((takesS (kd : Int)).1.toNat : Int) = (takesS (kd : Int)).1 := Int.toNat_of_nonneg t0
  by_cases h1 : x.length < 1 + (takesS (kd : Int)).1.toNat
  · rw [if_pos h1]
    exact Ev.pos (by show (x.length : Int) < 1 + (takesS (kd : Int)).1; omega) (Ev.now _)
  rw [if_neg h1]
  refine Ev.neg (by show ¬ (x.length : Int) < 1 + (takesS (kd : Int)).1; omega) ?_
  by_cases h2 : opsOk (mid (takesS (kd : Int)).1.toNat x) = true
  case neg =>
    rw [if_neg h2]
    exact Ev.neg h2 (Ev.now _)
  rw [if_pos h2]
  refine Ev.pos h2 ?_
  have hr := right_tells (kd : Int) (opNums (mid (takesS (kd : Int)).1.toNat x)) (x.drop (1 + (takesS (kd : Int)).1.toNat)) (get0_size x (by omega) _)
  have e : (opNums (mid (takesS (kd : Int)).1.toNat x)).length = (mid (takesS (kd : Int)).1.toNat x).length := by
    unfold opNums
    rw [List.length_map]
  rw [e] at hr
  refine Ev.bind hr ?_
  by_cases h3 : rightS kd (mid (takesS (kd : Int)).1.toNat x).length (x.drop (1 + (takesS (kd : Int)).1.toNat)) = true
  · refine Ev.pos h3 ?_
    rw [if_pos h3]
    exact Ev.now _
  · refine Ev.neg h3 ?_
    rw [if_neg h3]
    exact Ev.now _
theorem w01_go (l : List Int) (hl : l.length ≤ 100000000) : ∀ (d i : Nat), d + i = l.length → Ev (fun k => logbookref01_Words.l0 k l l i) true
  | 0, i, hd => Ev.step (fun k => logbookref01_Words.l0.eq_2 _ _ _ _) (Ev.neg (by omega) (Ev.now _))
  | d + 1, i, hd => by
    refine Ev.step (fun k => logbookref01_Words.l0.eq_2 _ _ _ _) (Ev.pos (by omega) (Ev.pos (by omega) (Ev.pos (by omega) (Ev.pos rfl ?_))))
    rw [wn (n := l.length) (by omega) hl]
    exact w01_go l hl d (i + 1) (by omega)
theorem same_tells (a : Int) (b : List Int) (c : List ByteArray) (hb : b.length ≤ 100000000) (hc : c.length ≤ 100000000) : Ev (fun k => logbooklaw46_same.f k a b c a b c) true :=
  Ev.pos rfl (Ev.bind (Ev.pos rfl (w01_go b hb b.length 0 (by omega))) (Ev.pos rfl (Ev.bind (texts_tells c hc) (Ev.now _))))
/-! ### what is written is read again -/
theorem light_go (a : Int) (ns : List Int) (ts : List ByteArray) : ∀ (d i : Nat) (x : Int), d + i = min ts.length 80 → ∃ b, Ev (fun k => logbooklaw46_light.l0 k x i a ns ts) b ∧ (b = true → ts.length ≤ 80 ∧ ns.length ≤ 20)
  | 0, i, x, hd => by
    by_cases h1 : ts.length ≤ 80
    · by_cases h2 : ns.length ≤ 20
      · refine ⟨decide (x ≤ 3000), Ev.step (fun k => logbooklaw46_light.l0.eq_2 _ _ _ _ _ _) (Ev.neg (by omega) (Ev.pos (by omega) (Ev.pos (by omega) (Ev.now _)))), fun _ => ⟨h1, h2⟩⟩
      · refine ⟨false, Ev.step (fun k => logbooklaw46_light.l0.eq_2 _ _ _ _ _ _) (Ev.neg (by omega) (Ev.pos (by omega) (Ev.neg (by omega) (Ev.now _)))), fun h => by cases h⟩
    · refine ⟨false, Ev.step (fun k => logbooklaw46_light.l0.eq_2 _ _ _ _ _ _) (Ev.pos (by omega) (Ev.neg (by omega) (Ev.neg (by omega) (Ev.now _)))), fun h => by cases h⟩
  | d + 1, i, x, hd => by
    obtain ⟨b, h1, h2⟩ := light_go a ns ts d (i + 1) (wrap64 (x + (mn ((rdOf ByteArray.empty ts (i : Int)).size : Int) 3000))) (by omega)
    refine ⟨b, Ev.step (fun k => logbooklaw46_light.l0.eq_2 _ _ _ _ _ _) (Ev.pos (by omega) (Ev.pos (by omega) (Ev.pos (by omega) ?_))), h2⟩
    rw [wn (n := 80) (by omega) (by omega)]
    exact h1
theorem oline_go (q : Nat) (hq : q < 33) (ns : List Int) (hns : ∀ n ∈ ns, 0 ≤ n ∧ n ≤ 18446744073709551615) (ts : List ByteArray) (hn : ns.length ≤ 20) (ht : total ts ≤ 1090000) (a : Int) : ∀ (d i : Nat), d + i = ns.length →
    Ev (fun k => op_Op_Line.l0 k ([nameAt q] ++ (ns.take i).map decB) ns (ns.length : Nat) i a ns ts) (lineS ([nameAt q] ++ ns.map decB ++ ts))
  | 0, i, hd => by
    have hl := total_len ts
    have hdd := total_decs ns hns
    have hs := names_small ⟨q, hq⟩
    rw [List.take_of_length_le (by omega)]
    refine Ev.step (fun k => op_Op_Line.l0.eq_2 _ _ _ _ _ _ _ _) (Ev.neg (by omega) (Ev.pos ?_ (Ev.bind (line_tells _ ?_) (Ev.now _))))
    · rw [List.length_append, List.length_map]
      simp only [List.length_cons, List.length_nil]
      omega
    · rw [total_app, total_app, total, total]
      have : (nameAt q).size ≤ 20 := hs
      omega
  | d + 1, i, hd => by
    have hi : i < ns.length := by omega
    have ih := oline_go q hq ns hns ts hn ht a d (i + 1) (by omega)
    have hg : rd ns (i : Int) = ns[i] := by
      unfold rd
      rw [Int.toNat_natCast, List.getD_eq_getElem?_getD, List.getElem?_eq_getElem hi]
      rfl
    obtain ⟨n0, n1⟩ := hns _ (List.getElem_mem hi)
    refine Ev.step (fun k => op_Op_Line.l0.eq_2 _ _ _ _ _ _ _ _) (Ev.pos (by omega) (Ev.pos (by omega) (Ev.pos (by omega) ?_)))
    rw [hg]
    refine Ev.bind (Num.decimal_tells _ n0 n1) (Ev.pos ?_ ?_)
    · rw [List.length_append, List.length_map, List.length_take]
      simp only [List.length_cons, List.length_nil]
      omega
    · rw [wn (n := ns.length) (by omega) (by omega)]
      rw [List.take_succ_eq_append_getElem hi, List.map_append, ← List.append_assoc] at ih
      exact ih
theorem num_back (n : Int) (h0 : 0 ≤ n) (h1 : n ≤ 18446744073709551615) : numOf (decB n) = (n, true) := by
  have h := Num.number_yes n h0 h1
  rw [numOf_eq] at h
  exact Option.some.inj h
theorem nums_back : ∀ (ns : List Int), (∀ n ∈ ns, 0 ≤ n ∧ n ≤ 18446744073709551615) → opsOk (ns.map decB) = true ∧ opNums (ns.map decB) = ns
  | [], _ => ⟨rfl, rfl⟩
  | n :: r, h => by
    obtain ⟨i1, i2⟩ := nums_back r (fun m hm => h m (List.mem_cons_of_mem _ hm))
    have hb := num_back n (h n (by simp)).1 (h n (by simp)).2
    have e1 : opsOk ((n :: r).map decB) = ((numOf (decB n)).2 && opsOk (r.map decB)) := rfl
    have e2 : opNums ((n :: r).map decB) = (numOf (decB n)).1 :: opNums (r.map decB) := rfl
    rw [e1, e2, hb, i1, i2]
    exact ⟨rfl, rfl⟩
theorem kFrom_at (q : Nat) (hq : q < 33) : ∀ d i, d + i = 34 → 1 ≤ i → i ≤ q + 1 → kFrom (nameAt q) d i = q + 1
  | 0, i, hd, h1, h2 => by omega
  | d + 1, i, hd, h1, h2 => by
    rw [kFrom]
    by_cases he : i = q + 1
    · subst he
      exact if_pos rfl
    · rw [if_neg ?_]
      · exact kFrom_at q hq d (i + 1) (by omega) (by omega) (by omega)
      · intro e
        have e2 : nameAt (i - 1) = nameAt q := by
          unfold nameAt
          rw [show i - 1 + 1 = i by omega]
          exact toList_inj e
        refine names_apart ⟨i - 1, by omega⟩ ⟨q, hq⟩ (fun e3 => ?_) (congrArg ByteArray.data e2)
        have := congrArg Fin.val e3
        simp only at this
        omega
theorem rightS_tells {kd : Int} {n : Nat} {ts : List ByteArray} (h : rightS kd n ts = true) : 1 ≤ kd ∧ kd ≤ 33 ∧ (n : Int) = (takesS kd).1 := by
  by_cases c1 : kd < 1 ∨ kd > 33
  · rw [rightS_1 c1] at h
    cases h
  · by_cases c2 : (n : Int) ≠ (takesS kd).1 ∨ (ts.length : Int) < (takesS kd).2.1 ∨ (ts.length : Int) > (takesS kd).2.2
    · rw [rightS_2 c1 c2] at h
      cases h
    · refine ⟨by omega, by omega, ?_⟩
      by_cases e : (n : Int) = (takesS kd).1
      · exact e
      · exact absurd (.inl e) c2
theorem mid_mid (a : ByteArray) (m ts : List ByteArray) : mid m.length ([a] ++ m ++ ts) = m ∧ ([a] ++ m ++ ts).drop (1 + m.length) = ts := by
  unfold mid
  rw [List.append_assoc, Nat.add_comm 1 m.length]
  refine ⟨?_, ?_⟩
  · show ((a :: (m ++ ts)).take (m.length + 1)).drop 1 = m
    rw [List.take_succ_cons, List.drop_succ_cons, List.drop_zero, List.take_append_of_le_length (Nat.le_refl _), List.take_length]
  · show (a :: (m ++ ts)).drop (m.length + 1) = ts
    rw [List.drop_succ_cons, List.drop_append_of_le_length (Nat.le_refl _), List.drop_length]
    rfl
theorem parse_back (q : Nat) (hq : q < 33) (ns : List Int) (hns : ∀ n ∈ ns, 0 ≤ n ∧ n ≤ 18446744073709551615) (ts : List ByteArray) (hr : rightS ((q : Int) + 1) ns.length ts = true) :
    parseAt (q + 1) ([nameAt q] ++ ns.map decB ++ ts) = some ((q : Int) + 1, ns, ts) := by
  obtain ⟨_, _, h1⟩ := rightS_tells hr
  have ec : ((q + 1 : Nat) : Int) = (q : Int) + 1 := by omega
  have hl : (ns.map decB).length = ns.length := List.length_map _
  obtain ⟨m1, m2⟩ := mid_mid (nameAt q) (ns.map decB) ts
  obtain ⟨b1, b2⟩ := nums_back ns hns
  rw [hl] at m1 m2
  unfold parseAt
  rw [ec, ← h1, Int.toNat_natCast, m1, m2, hl, if_neg, if_pos b1, if_pos hr, b2]
  rw [List.length_append, List.length_append, hl]
  simp only [List.length_cons, List.length_nil]
  omega
theorem law (a : Int) (h0 : -9223372036854775808 ≤ a) (h1 : a ≤ 9223372036854775807) (ns : List Int) (hns : ∀ n ∈ ns, 0 ≤ n ∧ n ≤ 18446744073709551615) (ts : List ByteArray) (ht : total ts ≤ 1048576) : ∃ k, logbooklaw46_OpWrites.f k a ns ts = some true := by
  refine Ev.at ?_
  obtain ⟨b, hb1, hb2⟩ := light_go a ns ts (min ts.length 80) 0 0 (by omega)
  refine Ev.bind hb1 ?_
  cases b
  · exact Ev.pos rfl awake_tells
  obtain ⟨l1, l2⟩ := hb2 rfl
  refine Ev.neg (by decide) ?_
  have hz : (ts.getD 0 ByteArray.empty).size ≤ 100000000 := by
    have := get0_size ts (by omega) 0
    exact this
  refine Ev.bind (right_tells a ns ts hz) (Ev.bind (refright_tells a h0 h1 ns ts hz) (Ev.pos rfl ?_))
  cases hr : rightS a ns.length ts
  · exact Ev.pos rfl awake_tells
  refine Ev.neg (by decide) ?_
  obtain ⟨k1, k2, k3⟩ := rightS_tells hr
  obtain ⟨q, rfl⟩ : ∃ q : Nat, a = (q : Int) + 1 := ⟨(a - 1).toNat, by omega⟩
  have hq : q < 33 := by omega
  have en : op_Name.f ((q : Int) + 1) = some (nameAt q) := by
    unfold op_Name.f nameAt
    rw [if_pos (by omega), show ((q : Int) + 1).toNat = q + 1 by omega]
  have hline : Ev (fun k => op_Op_Line.f k ((q : Int) + 1) ns ts) (lineS ([nameAt q] ++ ns.map decB ++ ts)) := by
    refine Ev.bindc en ?_
    have := oline_go q hq ns hns ts l2 (by omega) ((q : Int) + 1) ns.length 0 (by omega)
    exact this
  have hA : total ([nameAt q] ++ ns.map decB ++ ts) ≤ 1100000 := by
    have hdd := total_decs ns hns
    have hs : (nameAt q).size ≤ 20 := names_small ⟨q, hq⟩
    rw [total_app, total_app, total, total]
    omega
  have hpp := prog_parse (lineS ([nameAt q] ++ ns.map decB ++ ts)) (lines_size _ hA) _ (words_line _) (by omega) (by simp)
  have e0 : ([nameAt q] ++ ns.map decB ++ ts).getD 0 ByteArray.empty = nameAt q := rfl
  rw [e0, kFrom_at q hq 33 1 (by omega) (by omega) (by omega), parse_back q hq ns hns ts hr] at hpp
  refine Ev.bind hline (Ev.bind hpp (Ev.bind (refline_tells q hq ns hns ts l2 (by omega) (by omega)) (Ev.bind (same_tells ((q : Int) + 1) ns ts (by omega) (by omega)) (Ev.pos ⟨rfl, rfl, rfl⟩ awake_tells))))
end OW
end Go.Proofs.YtfhnmcjajpnhpaaDoor.Pure
namespace Go.Proofs.YtfhnmcjajpnhpaaDoor.PureOpWrites
open Go.Proofs.YtfhnmcjajpnhpaaDoor.POpWrites Go.Proofs.YtfhnmcjajpnhpaaDoor.Opn
set_option linter.unusedVariables false
theorem total_sum : ∀ l : List ByteArray, Pure.OW.total l = sumOf (fun x : ByteArray => x.size + 1) l
  | [] => rfl
  | x :: r => by
    rw [Pure.OW.total, total_sum r]
    rfl
theorem OpWrites (y0 : S30) (w0 : ((Lit.int .i64 y0.f0).wf = true) ∧ ((y0.f1.length ≤ maxLen ∧ y0.f1.length * 8 ≤ 140737488351232 ∧ ∀ x ∈ y0.f1, (Lit.int .u64 x).wf = true)) ∧ ((y0.f2.length ≤ maxLen ∧ y0.f2.length * 16 ≤ 140737488351232 ∧ ∀ x ∈ y0.f2, x.size ≤ 140737488351232)))
    (b0 : (1 + ((sumOf (fun _ : Int => 1) y0.f1 + 1) + (sumOf (fun x : ByteArray => x.size + 1) y0.f2 + 1))) + 1 ≤ 1048576) : ∃ k, logbooklaw46_OpWrites.f k y0.f0 y0.f1 y0.f2 = some true := by
  have h := Evs.wf_i64 w0.1
  exact Pure.OW.law y0.f0 h.1 h.2 y0.f1 (fun n hn => Evs.wf_u64 (w0.2.1.2.2 n hn)) y0.f2 (by rw [total_sum]; omega)
end Go.Proofs.YtfhnmcjajpnhpaaDoor.PureOpWrites
