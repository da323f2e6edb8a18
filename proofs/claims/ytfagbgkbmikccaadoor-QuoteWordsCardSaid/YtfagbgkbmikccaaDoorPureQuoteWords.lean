/- QuoteWords: the program reads every line as the reference does: in plain Lean. -/
import Derived.Test.YtfagbgkbmikccaaDoorPQuoteWordsx5
import Derived.Test.YtfagbgkbmikccaaDoorWds
namespace Go.Proofs.YtfagbgkbmikccaaDoor.Pure
open Go.RowKit Go.Proofs.YtfagbgkbmikccaaDoor.PQuoteWords Go.Proofs.YtfagbgkbmikccaaDoorW.PrintWords Go.Proofs.YtfagbgkbmikccaaDoorW.PrintMore Go.Proofs.YtfagbgkbmikccaaDoor.Evs Go.Proofs.YtfagbgkbmikccaaDoor.Str Go.Proofs.YtfagbgkbmikccaaDoor.Conv Go.Proofs.YtfagbgkbmikccaaDoor.Quo Go.Proofs.YtfagbgkbmikccaaDoor.Wds
set_option linter.unusedVariables false
set_option linter.unusedSimpArgs false
namespace QW
theorem awake_tells : Ev (fun k => logbooklaw31_awake.f k) true := ⟨6, fun k hk => by
  obtain ⟨m, rfl⟩ : ∃ m, k = m + 6 := ⟨k - 6, by omega⟩
  have h : ∀ m, logbooklaw31_awake.f 6 = some true → logbooklaw31_awake.f (m + 6) = some true := fun m h => by
    induction m with
    | zero => exact h
    | succ m ih => rw [show m + 1 + 6 = m + 6 + 1 by omega]; exact logbooklaw31_awake.mono (m + 6) _ ih
  exact h m (by decide +kernel)⟩
theorem wn {i n : Nat} (h : i ≤ n) (hn : n ≤ 1000000) : wrap64 ((i : Int) + 1) = ((i + 1 : Nat) : Int) := by
  rw [w64 (by omega) (by omega)]
  omega
theorem wm {i n : Nat} (h : i ≤ n) (hn : n ≤ 1000000) : wrap64 ((i : Int) + 0) = (i : Int) := by
  rw [w64 (by omega) (by omega)]
  omega
/-! ### strings.Split at a blank -/
def sep : ByteArray := ⟨#[32]⟩
theorem sep_size : ((sep.size : Nat) : Int) = 1 := rfl
theorem wsep {m n : Nat} (h : m ≤ n) (hn : n ≤ 1000000) : wrap64 ((m : Int) + ((sep.size : Nat) : Int)) = ((m + 1 : Nat) : Int) := by
  have h1 := sep_size
  generalize ((sep.size : Nat) : Int) = z at h1 ⊢
  subst h1
  exact wn h hn
theorem index_tells (s : ByteArray) : strings_Index.f s sep = some (idxI (bytesOf s)) := by
  have e : stringslite_Index.f s sep = some (Lib.indexByte s.data.toList 32) := rfl
  unfold strings_Index.f
  rw [e, idx_eq]
  rfl
theorem count_tells (s : ByteArray) : strings_Count.f s sep = some (((bytesOf s).count 32 : Nat) : Int) := by
  have e : strings_Count.f s sep = some ((Lib.countByte s.data.toList 32 : Nat) : Int) := rfl
  rw [e, cnt_eq]
  rfl
theorem take_set {α : Type} (l : List α) (i : Nat) (x : α) (h : i < l.length) : (l.set i x).take (i + 1) = l.take i ++ [x] := by
  rw [List.take_succ_eq_append_getElem (by rw [List.length_set]; exact h), List.getElem_set_self]
  congr 1
  rw [List.take_set_of_le (Nat.le_refl _)]
theorem split_go (n : Nat) (hn : n ≤ 100000) : ∀ (d i : Nat) (s : ByteArray) (x9 : List ByteArray), d + i = n → (bytesOf s).count 32 = d → x9.length = n + 1 → s.size ≤ 100000 →
    Ev (fun k => strings_genSplit.l0 k s sep 0 n x9 i) (x9.take i ++ (cut (bytesOf s)).map strOfNums)
  | d, i, s, x9, hd, hc, hx, hs => by
    have b0 : i ≤ n := by omega
    have b3 : n ≤ 1000000 := by omega
    have fin : (bytesOf s).count 32 = 0 → (x9.set (i : Int).toNat s).take ((i + 1 : Nat) : Int).toNat = x9.take i ++ (cut (bytesOf s)).map strOfNums := by
      intro h0
      rw [Int.toNat_natCast, Int.toNat_natCast, take_set _ _ _ (by omega), cut_none _ h0]
      simp [str_bytes]
    refine Ev.step (fun k => strings_genSplit.l0.eq_2 _ _ _ _ _ _ _) ?_
    rw [wn b0 b3]
    match d, hd, hc with
    | 0, hd, hc =>
      refine Ev.neg (by omega) (Ev.pos (by omega) (Ev.pos (by omega) (Ev.pos (by omega) (Ev.pos (by omega) (Ev.eq (Ev.now _) (fin hc))))))
    | d + 1, hd, hc =>
      obtain ⟨m, h1, h2, h3, h4⟩ := idx_hit (bytesOf s) (by omega)
      have hl : (bytesOf s).length = s.size := bytesOf_length s
      have b1 : m ≤ s.size := by omega
      have b2 : s.size ≤ 1000000 := by omega
      refine Ev.pos (by omega) (Ev.bindc (a := (m : Int)) (by rw [index_tells, h1]) ?_)
      rw [wm b1 b2, wsep b1 b2]
      refine Ev.neg (by omega) (Ev.pos (by omega) (Ev.pos (by omega) (Ev.pos (by omega) (Ev.pos (by omega) (Ev.pos (by omega) (Ev.pos (by omega) ?_))))))
      have e1 : bytesOf (s.extract (m + 1) s.size) = (bytesOf s).drop (m + 1) := by
        rw [bytesOf_extract, List.take_of_length_le (by omega)]
      have hsz : (s.extract (m + 1) s.size).size ≤ 100000 := by
        rw [ByteArray.size_extract]
        omega
      have ih := split_go n hn d (i + 1) (s.extract (m + 1) s.size) (x9.set i (s.extract 0 m)) (by omega) (by rw [e1]; omega) (by rw [List.length_set]; exact hx) hsz
      rw [e1, take_set _ _ _ (by omega)] at ih
      rw [Int.toNat_natCast, Int.toNat_natCast, Int.toNat_natCast]
      refine Ev.eq ih ?_
      rw [h3, List.append_assoc]
      congr 1
      show s.extract 0 m :: _ = strOfNums _ :: _
      rw [piece s 0 m]
      rfl
theorem split_tells (s : ByteArray) (hs : s.size ≤ 100000) : Ev (fun k => strings_Split.f k s sep) ((cut (bytesOf s)).map strOfNums) := by
  have hc : (bytesOf s).count 32 ≤ s.size := by
    rw [← bytesOf_length]
    exact List.count_le_length
  have hn := wn (i := (bytesOf s).count 32) (n := s.size) hc (by omega)
  have hs1 := wn (i := s.size) (n := s.size) (Nat.le_refl _) (by omega)
  refine Ev.bind (f := fun k a => some a) (g := fun k => strings_genSplit.f k s sep 0 (-1)) ?_ (Ev.now _)
  refine Ev.neg (by decide) (Ev.neg (by decide +kernel) (Ev.pos (by decide) (Ev.bindc (count_tells s) ?_)))
  rw [hn]
  refine Ev.step (fun k => strings_genSplit.j0.eq_2 _ _ _ _ _) ?_
  have hm : mn (((bytesOf s).count 32 + 1 : Nat) : Int) (wrap64 ((s.size : Int) + 1)) = (((bytesOf s).count 32 + 1 : Nat) : Int) := by
    rw [hs1]
    unfold mn
    exact if_neg (by omega)
  have h1 : wrap64 ((((bytesOf s).count 32 + 1 : Nat) : Int) - 1) = (((bytesOf s).count 32 : Nat) : Int) := by
    rw [w64 (by omega) (by omega)]
    omega
  rw [hm, h1]
  refine Ev.pos (by omega) (Ev.pos (by omega) ?_)
  have := split_go ((bytesOf s).count 32) (by omega) ((bytesOf s).count 32) 0 s (List.replicate ((((bytesOf s).count 32 + 1 : Nat) : Int)).toNat (⟨#[]⟩ : ByteArray)) (by omega) rfl (by rw [List.length_replicate]; omega) hs
  exact this
/-! ### the program's reading of a line -/
theorem read_f (p : ByteArray) (h : p.size ≤ 100000) : quote_Read.f p = some (readS p) := if_pos (by omega)
theorem words_go (ps : List ByteArray) (hp : ∀ p ∈ ps, p.size ≤ 100000) (hl : ps.length ≤ 200000) : ∀ (d i : Nat) (acc : List ByteArray), d + i = ps.length → acc.length ≤ i →
    Ev (fun k => quote_Words.l0 k acc ps (ps.length : Nat) i) (endO acc (readsO (ps.drop i)))
  | 0, i, acc, hd, ha => by
    refine Ev.step (fun k => quote_Words.l0.eq_2 _ _ _ _ _) (Ev.neg (by omega) (Ev.eq (Ev.now _) ?_))
    rw [List.drop_of_length_le (by omega)]
    simp [readsO, endO]
  | d + 1, i, acc, hd, ha => by
    have hi : i < ps.length := by omega
    have hg : rdOf ByteArray.empty ps (i : Int) = ps[i] := by
      unfold rdOf
      rw [Int.toNat_natCast, List.getD_eq_getElem?_getD, List.getElem?_eq_getElem hi]
      rfl
    have hdr : ps.drop i = ps[i] :: ps.drop (i + 1) := List.drop_eq_getElem_cons hi
    have p1 : wrap64 ((i : Int) + 1) = ((i + 1 : Nat) : Int) := wn (n := ps.length) (by omega) (by omega)
    refine Ev.step (fun k => quote_Words.l0.eq_2 _ _ _ _ _) ?_
    rw [hg, p1, hdr]
    refine Ev.pos (by omega) (Ev.pos (by omega) (Ev.pos (by omega) (Ev.bindc (read_f ps[i] (hp _ (List.getElem_mem hi))) ?_)))
    refine Ev.both (fun h => Ev.pos (by omega) ?_) (fun h => Ev.eq (Ev.now _) (endO_no h).symm)
    rw [endO_yes h]
    exact words_go ps hp hl d (i + 1) _ (by omega) (by simp; omega)
def wordsS (s : ByteArray) : List ByteArray × Bool := if s.size = 0 then ([], true) else endO [] (readsO ((cut (bytesOf s)).map strOfNums))
theorem words_tells (s : ByteArray) (hs : s.size ≤ 100000) : Ev (fun k => quote_Words.f k s) (wordsS s) := by
  unfold wordsS
  refine Ev.both (fun h => ?_) (fun h => ?_)
  · rw [if_pos (toList_eq_nil.1 h)]
    exact Ev.now _
  · rw [if_neg (fun e => h (toList_eq_nil.2 e))]
    refine Ev.bind (split_tells s hs) ?_
    have hl := cut_len (bytesOf s)
    have hc : (bytesOf s).count 32 ≤ s.size := by
      rw [← bytesOf_length]
      exact List.count_le_length
    have := words_go ((cut (bytesOf s)).map strOfNums) (fun p hp => by
      obtain ⟨q, hq, rfl⟩ := List.mem_map.1 hp
      have := (cut_pieces (bytesOf s) q hq).1
      rw [size_str]
      rw [bytesOf_length] at this
      omega) (by rw [List.length_map]; omega) ((cut (bytesOf s)).map strOfNums).length 0 [] (by omega) (by simp)
    exact this
/-! ### texts that are the same -/
theorem texts_go (l : List ByteArray) (hl : l.length ≤ 1000000) : ∀ (d i : Nat), d + i = l.length → Ev (fun k => logbookref04_Texts.l0 k l l i) true
  | 0, i, hd => Ev.step (fun k => logbookref04_Texts.l0.eq_2 _ _ _ _) (Ev.neg (by omega) (Ev.now _))
  | d + 1, i, hd => by
    refine Ev.step (fun k => logbookref04_Texts.l0.eq_2 _ _ _ _) (Ev.pos (by omega) (Ev.pos (by omega) (Ev.pos (by omega) (Ev.pos rfl ?_))))
    rw [wn (n := l.length) (by omega) hl]
    exact texts_go l hl d (i + 1) (by omega)
theorem texts_tells (l : List ByteArray) (hl : l.length ≤ 1000000) : Ev (fun k => logbookref04_Texts.f k l l) true := Ev.pos rfl (texts_go l hl l.length 0 (by omega))
theorem readsO_len : ∀ {q x : List ByteArray}, readsO q = some x → x.length = q.length
  | [], x, h => by rw [readsO] at h; rw [← Option.some.inj h]
  | p :: q, x, h => by
    rw [readsO] at h
    split at h
    · obtain ⟨y, hy, rfl⟩ := Option.map_eq_some_iff.1 h
      simp [readsO_len hy]
    · cases h
theorem wordsS_len (s : ByteArray) (hs : s.size ≤ 100000) : (wordsS s).1.length ≤ 1000000 := by
  unfold wordsS
  split
  · simp
  · cases hr : readsO ((cut (bytesOf s)).map strOfNums) with
    | none => simp [endO]
    | some x =>
      have h1 := readsO_len hr
      have hc : (bytesOf s).count 32 ≤ s.size := by
        rw [← bytesOf_length]
        exact List.count_le_length
      rw [List.length_map, cut_len] at h1
      simp [endO]
      omega
theorem nibble_tells (c : Int) (h : 0 ≤ c ∧ c ≤ 255) : Ev (fun k => logbookref31_nibble.f k c) (hexV c).1 := by
  refine Ev.both (fun h48 => Ev.step (fun k => logbookref31_nibble.j0.eq_2 _ _ _) (Ev.both (fun e => ?_) (fun e => ?_))) (fun h48 => Ev.step (fun k => logbookref31_nibble.j0.eq_2 _ _ _) (Ev.neg (by simp) (Ev.neg (by omega) (Ev.eq (Ev.now _) ?_))))
  · have e' := of_decide_eq_true e
    refine Ev.eq (Ev.now _) ?_
    unfold hexV
    rw [if_pos ⟨h48, e'⟩]
    show (c - 48) % 256 = c - 48
    omega
  · have e' : ¬ c ≤ 57 := fun e' => e (decide_eq_true e')
    refine Ev.both (fun g1 => Ev.both (fun g2 => Ev.eq (Ev.now _) ?_) (fun g2 => Ev.eq (Ev.now _) ?_)) (fun g1 => Ev.eq (Ev.now _) ?_)
    · unfold hexV
      rw [if_neg (by omega), if_pos ⟨g1, g2⟩]
      show ((c - 65) % 256 + 10) % 256 = c - 55
      omega
    · unfold hexV
      rw [if_neg (by omega), if_neg (by omega)]
    · unfold hexV
      rw [if_neg (by omega), if_neg (by omega)]
  · unfold hexV
    rw [if_neg (by omega), if_neg (by omega)]
/-- The end of the reference's reading. -/
def fin (s : ByteArray) (x : List Int) : ByteArray × Bool := if wordL x = bytesOf s then (strOfNums x, true) else (⟨#[]⟩, false)
theorem fin_tells (s : ByteArray) (x : List Int) (hx : Bytes x) (hl : x.length ≤ 2000) :
    Ev (fun k => (logbookref31_Word.f (strOfNums x)).bind fun t113 => (if t113.toList = s.toList then (some (strOfNums x, true)) else (some ((⟨#[]⟩ : ByteArray), false)))) (fin s x) := by
  have e : logbookref31_Word.f (strOfNums x) = some (strOfNums (wordL x)) := by
    unfold logbookref31_Word.f
    rw [if_pos (by rw [size_str]; omega), bytes_str hx]
  refine Ev.bindc e ?_
  unfold fin
  by_cases g : wordL x = bytesOf s
  · rw [if_pos g]
    exact Ev.pos (toList_iff.2 (by rw [bytes_str (word_bytes hx), g])) (Ev.now _)
  · rw [if_neg g]
    exact Ev.neg (fun e' => g (by rw [← toList_iff.1 e', bytes_str (word_bytes hx)])) (Ev.now _)
theorem cut {s : ByteArray} {i : Nat} (h : i < s.size) : ((bytesOf s).drop i).length = s.size - i := by rw [List.length_drop, bytesOf_length]
theorem ws1 {i n : Nat} (h : i ≤ n) (hn : n ≤ 2000) : wrap64 ((i : Int) + 1) = ((i + 1 : Nat) : Int) := by
  rw [w64 (by omega) (by omega)]
  omega
theorem ws2 {i n : Nat} (h : i ≤ n) (hn : n ≤ 2000) : wrap64 ((i : Int) + 2) = ((i + 2 : Nat) : Int) := by
  rw [w64 (by omega) (by omega)]
  omega
theorem snoc {acc : List Int} (h : Bytes acc) {x : Int} (hx : 0 ≤ x ∧ x ≤ 255) : Bytes (acc ++ [x]) := by
  intro y hy
  rcases List.mem_append.1 hy with hy | hy
  · exact h y hy
  · rw [List.mem_singleton.1 hy]
    exact hx
theorem go (s : ByteArray) (hs : s.size ≤ 2000) : ∀ (n i : Nat) (acc : List Int), s.size - i ≤ n → i ≤ s.size → acc.length ≤ i → Bytes acc →
    Ev (fun k => logbookref31_Read.l0 k s acc i) (fin s (acc ++ looseL ((bytesOf s).drop i)))
  | n, i, acc, hn, hi, hl, hb => by
    refine Ev.step (fun k => logbookref31_Read.l0.eq_2 _ _ _ _) ?_
    by_cases hlt : i < s.size
    · have g : (i : Int) < (s.size : Int) := by omega
      match n, hn with
      | 0, hn => omega
      | n + 1, hn =>
      have p1 := ws1 hi hs
      have p2 := ws2 hi hs
      have hr := bt_range s i
      refine Ev.pos g (Ev.pos (by omega) (Ev.both (fun h37 => ?_) (fun h37 => ?_)))
      · by_cases h2 : i + 2 < s.size
        · have w3 : wrap64 (((i + 2 : Nat) : Int) + 1) = ((i + 3 : Nat) : Int) := ws1 (i := i + 2) (n := s.size) (by omega) hs
          have hr1 := bt_range s (i + 1 : Nat)
          have hr2 := bt_range s (i + 2 : Nat)
          have hx := hexV_in (bt s (i + 1 : Nat))
          have hy := hexV_in (bt s (i + 2 : Nat))
          refine Ev.step (fun k => logbookref31_Read.j1.eq_2 _ _ _ _ _) ?_
          rw [p1, p2, w3]
          refine Ev.pos (decide_eq_true (by omega)) (Ev.pos (by omega) (Ev.pos (by omega) (Ev.bind (nibble_tells _ hr1) (Ev.pos (by omega) (Ev.pos (by omega) (Ev.bind (nibble_tells _ hr2) (Ev.pos (by omega) ?_)))))))
          have e : ((hexV (bt s (i + 1 : Nat))).1 * 16 % 256 + (hexV (bt s (i + 2 : Nat))).1) % 256 = (hexV (bt s (i + 1 : Nat))).1 * 16 + (hexV (bt s (i + 2 : Nat))).1 := by omega
          rw [e]
          have ih := go s hs n (i + 3) (acc ++ [(hexV (bt s (i + 1 : Nat))).1 * 16 + (hexV (bt s (i + 2 : Nat))).1]) (by omega) (by omega) (by simp; omega) (snoc hb (by omega))
          refine Ev.eq ih ?_
          rw [bt_drop s i hlt, bt_drop s (i + 1) (by omega), bt_drop s (i + 2) h2, h37, loose_pair, List.append_assoc]
          rfl
        · refine Ev.step (fun k => logbookref31_Read.j1.eq_2 _ _ _ _ _) ?_
          rw [p1, p2]
          refine Ev.neg (fun e => ?_) (Ev.pos (by omega) (Ev.pos g (Ev.pos h37 ?_)))
          · have := of_decide_eq_true e
            omega
          · refine Ev.eq (go s hs n (i + 1) acc (by omega) (by omega) (by omega) hb) ?_
            rw [bt_drop s i hlt, h37, loose_short (by rw [List.length_drop, bytesOf_length]; omega)]
      · refine Ev.step (fun k => logbookref31_Read.j1.eq_2 _ _ _ _ _) ?_
        rw [p1]
        refine Ev.neg (by simp) (Ev.pos (by omega) (Ev.pos g (Ev.neg h37 (Ev.pos (by omega) ?_))))
        refine Ev.eq (go s hs n (i + 1) (acc ++ [bt s i]) (by omega) (by omega) (by simp; omega) (snoc hb hr)) ?_
        rw [bt_drop s i hlt, loose_plain h37, List.append_assoc]
        rfl
    · have e : looseL ((bytesOf s).drop i) = [] := by
        rw [List.drop_of_length_le (by rw [bytesOf_length]; omega)]
        rfl
      rw [e, List.append_nil]
      exact Ev.neg (by omega) (fin_tells s acc hb (by omega))
/-! ### the reference's reading of a line -/
theorem ref_read (s : ByteArray) (hs : s.size ≤ 2000) : Ev (fun k => logbookref31_Read.f k s) (readS s) := by
  have e2 := go s hs s.size 0 [] (by omega) (by omega) (by simp) (fun x hx => by simp at hx)
  rw [List.drop_zero, List.nil_append] at e2
  refine Ev.eq e2 ?_
  unfold readS fin
  rw [read_tells _ (bytesOf_bytes s)]
  by_cases g : wordL (looseL (bytesOf s)) = bytesOf s
  · rw [if_pos g, if_pos g]
  · rw [if_neg g, if_neg g]
    rfl
theorem refw_go (s : ByteArray) (hs : s.size ≤ 2000) (hz : s.size ≠ 0) : ∀ (d a i : Nat) (acc : List ByteArray), d + i = s.size → a ≤ i → acc.length ≤ i →
    Ev (fun k => logbookref31_Words.l0 k s acc a i) (endO acc (readsO ((goW (((bytesOf s).take i).drop a) ((bytesOf s).drop i)).map strOfNums)))
  | d, a, i, acc, hd, ha, hl => by
    have hne : (s.toList != ([] : List UInt8)) = true := bne_iff_ne.2 (fun e => hz (toList_eq_nil.1 e))
    have hb : (bytesOf s).length = s.size := bytesOf_length s
    have p1 : wrap64 ((i : Int) + 1) = ((i + 1 : Nat) : Int) := wn (n := s.size) (by omega) (by omega)
    have hsz : (s.extract a i).size ≤ 2000 := by
      rw [ByteArray.size_extract]
      omega
    refine Ev.step (fun k => logbookref31_Words.l0.eq_2 _ _ _ _ _) (Ev.pos (by omega) (Ev.step (fun k => logbookref31_Words.j1.eq_2 _ _ _ _ _ _) (Ev.pos hne ?_)))
    have pe : strOfNums (((bytesOf s).take i).drop a) = s.extract a i := (piece s a i).symm
    match d, hd with
    | 0, hd =>
      obtain rfl : i = s.size := by omega
      have hdr : (bytesOf s).drop s.size = [] := List.drop_of_length_le (by omega)
      refine Ev.neg (by omega) (Ev.step (fun k => logbookref31_Words.j2.eq_2 _ _ _ _ _ _) (Ev.neg (by simp) (Ev.pos (by omega) (Ev.pos (by omega) (Ev.pos (by omega) ?_)))))
      rw [hdr, goW, p1, List.map_cons, List.map_nil, pe, Int.toNat_natCast, Int.toNat_natCast]
      refine Ev.bind (ref_read _ hsz) (Ev.both (fun h => Ev.pos (by omega) ?_) (fun h => Ev.eq (Ev.now _) (endO_no h).symm))
      refine Ev.step (fun k => logbookref31_Words.l0.eq_2 _ _ _ _ _) (Ev.neg (by omega) (Ev.step (fun k => logbookref31_Words.j1.eq_2 _ _ _ _ _ _) (Ev.neg (by simp) (Ev.eq (Ev.now _) ?_))))
      rw [endO_yes h]
      simp [readsO, endO]
    | d + 1, hd =>
      have hlt : i < s.size := by omega
      have hdr := bt_drop s i hlt
      rw [hdr, goW]
      refine Ev.pos (by omega) (Ev.pos (by omega) (Ev.step (fun k => logbookref31_Words.j2.eq_2 _ _ _ _ _ _) ?_))
      rw [p1]
      by_cases h32 : bt s (i : Int) = 32
      · have hbne : ¬ (bt s (i : Int) != 32) = true := by rw [h32]; decide
        rw [if_pos h32, List.map_cons, pe, Int.toNat_natCast, Int.toNat_natCast]
        refine Ev.neg hbne (Ev.pos (by omega) (Ev.pos (by omega) (Ev.pos (by omega) (Ev.bind (ref_read _ hsz) (Ev.both (fun h => Ev.pos (by omega) ?_) (fun h => Ev.eq (Ev.now _) (endO_no h).symm))))))
        rw [endO_yes h]
        have ih := refw_go s hs hz d (i + 1) (i + 1) (acc ++ [(readS (s.extract a i)).1]) (by omega) (Nat.le_refl _) (by simp; omega)
        rw [List.drop_of_length_le (i := i + 1) (l := (bytesOf s).take (i + 1)) (by rw [List.length_take]; omega)] at ih
        exact ih
      · have hbne : (bt s (i : Int) != 32) = true := bne_iff_ne.2 h32
        rw [if_neg h32]
        refine Ev.pos hbne ?_
        have ih := refw_go s hs hz d a (i + 1) acc (by omega) (by omega) (by omega)
        have e : ((bytesOf s).take (i + 1)).drop a = ((bytesOf s).take i).drop a ++ [bt s (i : Int)] := by
          rw [bt_take s i hlt, List.drop_append_of_le_length (by rw [List.length_take]; omega)]
        rw [e] at ih
        exact ih
theorem ref_words (s : ByteArray) (hs : s.size ≤ 2000) : Ev (fun k => logbookref31_Words.f k s) (wordsS s) := by
  unfold wordsS
  by_cases hz : s.size = 0
  · rw [if_pos hz]
    have hne : ¬ (s.toList != ([] : List UInt8)) = true := by
      rw [toList_eq_nil.2 hz]
      decide
    exact Ev.step (fun k => logbookref31_Words.l0.eq_2 _ _ _ _ _) (Ev.pos (by omega) (Ev.step (fun k => logbookref31_Words.j1.eq_2 _ _ _ _ _ _) (Ev.neg hne (Ev.now _))))
  · rw [if_neg hz, ← goW_nil]
    have := refw_go s hs hz s.size 0 0 [] (by omega) (by omega) (by simp)
    exact this
end QW
theorem QuoteWords : logbooklaw31_QuoteWords.Pure := by
  intro a0 hs
  refine Ev.at ?_
  refine Ev.both (fun _ => Ev.bind QW.awake_tells (Ev.now _)) (fun h => ?_)
  refine Ev.bind (QW.words_tells a0 (by omega)) (Ev.bind (QW.ref_words a0 (by omega)) (Ev.bind (QW.texts_tells _ (QW.wordsS_len a0 (by omega))) (Ev.pos rfl (Ev.pos (by simp) (Ev.bind QW.awake_tells (Ev.now _))))))
end Go.Proofs.YtfagbgkbmikccaaDoor.Pure
