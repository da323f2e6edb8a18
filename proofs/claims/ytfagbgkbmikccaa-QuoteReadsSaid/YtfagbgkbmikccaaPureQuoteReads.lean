/- QuoteReads: the program reads as the reference does; in plain Lean. -/
import Derived.Test.YtfagbgkbmikccaaPQuoteReadsx2
import Derived.Test.YtfagbgkbmikccaaQuo
namespace Go.Proofs.Ytfagbgkbmikccaa.Pure
open Go.RowKit Go.Proofs.Ytfagbgkbmikccaa.PQuoteReads Go.Proofs.YtfagbgkbmikccaaW.PrintWords Go.Proofs.Ytfagbgkbmikccaa.Evs Go.Proofs.Ytfagbgkbmikccaa.Str Go.Proofs.Ytfagbgkbmikccaa.Conv Go.Proofs.Ytfagbgkbmikccaa.Quo
set_option linter.unusedVariables false
set_option linter.unusedSimpArgs false

namespace QR
theorem awake_tells : Ev (fun k => logbooklaw31_awake.f k) true := ⟨6, fun k hk => by
  obtain ⟨m, rfl⟩ : ∃ m, k = m + 6 := ⟨k - 6, by omega⟩
  have h : ∀ m, logbooklaw31_awake.f 6 = some true → logbooklaw31_awake.f (m + 6) = some true := fun m h => by
    induction m with
    | zero => exact h
    | succ m ih => rw [show m + 1 + 6 = m + 6 + 1 by omega]; exact logbooklaw31_awake.mono (m + 6) _ ih
  exact h m (by decide +kernel)⟩
theorem nibble_tells (c : Int) (h : 0 ≤ c ∧ c ≤ 255) : Ev (fun k => logbookref31_nibble.f k c) (hexV c).1 := by
  refine Ev.both (fun h48 => Ev.step (fun k => logbookref31_nibble.j0.eq_2 _ _ _) (Ev.both (fun e => ?_) (fun e => ?_))) (fun h48 => Ev.step (fun k => logbookref31_nibble.j0.eq_2 _ _ _) (Ev.neg (by simp) (Ev.neg (by omega) (Ev.eq (Ev.now _) ?_))))
  · have e' := of_decide_eq_true e
    refine Ev.eq (Ev.now _) ?_
    unfold hexV
    rw [if_pos ⟨h48, e'⟩]
    show (c - 48) % 256 = c - 48
    omega
  · have e' : ¬ c ≤ 57 := fun e' => e (decide_eq_true e')
    refine Ev.both (fun g1 => Ev.both (fun g2 => Ev.eq (Ev.now _) ?_) (fun g2 => Ev.eq (Ev.now _) ?_)) (fun g1 => Ev.eq (Ev.now _) ?_)
    · unfold hexV
      rw [if_neg (by omega), if_pos ⟨g1, g2⟩]
      show ((c - 65) % 256 + 10) % 256 = c - 55
      omega
    · unfold hexV
      rw [if_neg (by omega), if_neg (by omega)]
    · unfold hexV
      rw [if_neg (by omega), if_neg (by omega)]
  · unfold hexV
    rw [if_neg (by omega), if_neg (by omega)]
/-- The end of the reference's reading. -/
def fin (s : ByteArray) (x : List Int) : ByteArray × Bool := if wordL x = bytesOf s then (strOfNums x, true) else (⟨#[]⟩, false)
theorem fin_tells (s : ByteArray) (x : List Int) (hx : Bytes x) (hl : x.length ≤ 2000) :
    Ev (fun k => (logbookref31_Word.f (strOfNums x)).bind fun t113 => (if t113.toList = s.toList then (some (strOfNums x, true)) else (some ((⟨#[]⟩ : ByteArray), false)))) (fin s x) := by
  have e : logbookref31_Word.f (strOfNums x) = some (strOfNums (wordL x)) := by
    unfold logbookref31_Word.f
    rw [if_pos (by rw [size_str]; omega), bytes_str hx]
  refine Ev.bindc e ?_
  unfold fin
  by_cases g : wordL x = bytesOf s
  · rw [if_pos g]
    exact Ev.pos (toList_iff.2 (by rw [bytes_str (word_bytes hx), g])) (Ev.now _)
  · rw [if_neg g]
    exact Ev.neg (fun e' => g (by rw [← toList_iff.1 e', bytes_str (word_bytes hx)])) (Ev.now _)
theorem cut {s : ByteArray} {i : Nat} (h : i < s.size) : ((bytesOf s).drop i).length = s.size - i := by rw [List.length_drop, bytesOf_length]
theorem ws1 {i n : Nat} (h : i ≤ n) (hn : n ≤ 2000) : wrap64 ((i : Int) + 1) = ((i + 1 : Nat) : Int) := by
  rw [w64 (by omega) (by omega)]
  omega
theorem ws2 {i n : Nat} (h : i ≤ n) (hn : n ≤ 2000) : wrap64 ((i : Int) + 2) = ((i + 2 : Nat) : Int) := by
  rw [w64 (by omega) (by omega)]
  omega
theorem snoc {acc : List Int} (h : Bytes acc) {x : Int} (hx : 0 ≤ x ∧ x ≤ 255) : Bytes (acc ++ [x]) := by
  intro y hy
  rcases List.mem_append.1 hy with hy | hy
  · exact h y hy
  · rw [List.mem_singleton.1 hy]
    exact hx
theorem go (s : ByteArray) (hs : s.size ≤ 2000) : ∀ (n i : Nat) (acc : List Int), s.size - i ≤ n → i ≤ s.size → acc.length ≤ i → Bytes acc →
    Ev (fun k => logbookref31_Read.l0 k s acc i) (fin s (acc ++ looseL ((bytesOf s).drop i)))
  | n, i, acc, hn, hi, hl, hb => by
    refine Ev.step (fun k => logbookref31_Read.l0.eq_2 _ _ _ _) ?_
    by_cases hlt : i < s.size
    · have g : (i : Int) < (s.size : Int) := by omega
      match n, hn with
      | 0, hn => omega
      | n + 1, hn =>
      have p1 := ws1 hi hs
      have p2 := ws2 hi hs
      have hr := bt_range s i
      refine Ev.pos g (Ev.pos (by omega) (Ev.both (fun h37 => ?_) (fun h37 => ?_)))
      · by_cases h2 : i + 2 < s.size
        · have w3 : wrap64 (((i + 2 : Nat) : Int) + 1) = ((i + 3 : Nat) : Int) := ws1 (i := i + 2) (n := s.size) (by omega) hs
          have hr1 := bt_range s (i + 1 : Nat)
          have hr2 := bt_range s (i + 2 : Nat)
          have hx := hexV_in (bt s (i + 1 : Nat))
          have hy := hexV_in (bt s (i + 2 : Nat))
          refine Ev.step (fun k => logbookref31_Read.j1.eq_2 _ _ _ _ _) ?_
          rw [p1, p2, w3]
          refine Ev.pos (decide_eq_true (by omega)) (Ev.pos (by omega) (Ev.pos (by omega) (Ev.bind (nibble_tells _ hr1) (Ev.pos (by omega) (Ev.pos (by omega) (Ev.bind (nibble_tells _ hr2) (Ev.pos (by omega) ?_)))))))
          have e : ((hexV (bt s (i + 1 : Nat))).1 * 16 % 256 + (hexV (bt s (i + 2 : Nat))).1) % 256 = (hexV (bt s (i + 1 : Nat))).1 * 16 + (hexV (bt s (i + 2 : Nat))).1 := by omega
          rw [e]
          have ih := go s hs n (i + 3) (acc ++ [(hexV (bt s (i + 1 : Nat))).1 * 16 + (hexV (bt s (i + 2 : Nat))).1]) (by omega) (by omega) (by simp; omega) (snoc hb (by omega))
          refine Ev.eq ih ?_
          rw [bt_drop s i hlt, bt_drop s (i + 1) (by omega), bt_drop s (i + 2) h2, h37, loose_pair, List.append_assoc]
          rfl
        · refine Ev.step (fun k => logbookref31_Read.j1.eq_2 _ _ _ _ _) ?_
          rw [p1, p2]
          refine Ev.neg (fun e => ?_) (Ev.pos (by omega) (Ev.pos g (Ev.pos h37 ?_)))
          · have := of_decide_eq_true e
            omega
          · refine Ev.eq (go s hs n (i + 1) acc (by omega) (by omega) (by omega) hb) ?_
            rw [bt_drop s i hlt, h37, loose_short (by rw [List.length_drop, bytesOf_length]; omega)]
      · refine Ev.step (fun k => logbookref31_Read.j1.eq_2 _ _ _ _ _) ?_
        rw [p1]
        refine Ev.neg (by simp) (Ev.pos (by omega) (Ev.pos g (Ev.neg h37 (Ev.pos (by omega) ?_))))
        refine Ev.eq (go s hs n (i + 1) (acc ++ [bt s i]) (by omega) (by omega) (by simp; omega) (snoc hb hr)) ?_
        rw [bt_drop s i hlt, loose_plain h37, List.append_assoc]
        rfl
    · have e : looseL ((bytesOf s).drop i) = [] := by
        rw [List.drop_of_length_le (by rw [bytesOf_length]; omega)]
        rfl
      rw [e, List.append_nil]
      exact Ev.neg (by omega) (fin_tells s acc hb (by omega))
end QR
theorem QuoteReads : logbooklaw31_QuoteReads.Pure := by
  intro a0 hs
  refine Ev.at ?_
  refine Ev.both (fun _ => Ev.bind QR.awake_tells (Ev.now _)) (fun h => ?_)
  have hb := bytesOf_bytes a0
  have e1 : quote_Read.f a0 = some (QR.fin a0 (looseL (bytesOf a0))) := by
    unfold quote_Read.f QR.fin
    rw [if_pos (by omega), read_tells _ hb]
    by_cases g : wordL (looseL (bytesOf a0)) = bytesOf a0
    · rw [if_pos g, if_pos g]
    · rw [if_neg g, if_neg g]
      rfl
  have e2 := QR.go a0 (by omega) a0.size 0 [] (by omega) (by omega) (by simp) (fun x hx => by simp at hx)
  rw [List.drop_zero, List.nil_append] at e2
  exact Ev.bindc e1 (Ev.bind e2 (Ev.pos rfl (Ev.pos (by simp) (Ev.bind QR.awake_tells (Ev.now _)))))
end Go.Proofs.Ytfagbgkbmikccaa.Pure
