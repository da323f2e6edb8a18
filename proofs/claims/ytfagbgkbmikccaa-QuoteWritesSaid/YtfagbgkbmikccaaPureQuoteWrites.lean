/- QuoteWrites: a word that is written is read back, and is written as the reference writes it; in plain Lean. -/
import Derived.Test.YtfagbgkbmikccaaPQuoteWritesx2
import Derived.Test.YtfagbgkbmikccaaQuo
namespace Go.Proofs.Ytfagbgkbmikccaa.Pure
open Go.RowKit Go.Proofs.Ytfagbgkbmikccaa.PQuoteWrites Go.Proofs.YtfagbgkbmikccaaW.PrintWords Go.Proofs.Ytfagbgkbmikccaa.Evs Go.Proofs.Ytfagbgkbmikccaa.Str Go.Proofs.Ytfagbgkbmikccaa.Conv Go.Proofs.Ytfagbgkbmikccaa.Quo
set_option linter.unusedVariables false
set_option linter.unusedSimpArgs false

namespace QW
theorem awake_tells : Ev (fun k => logbooklaw31_awake.f k) true := ⟨6, fun k hk => by
  obtain ⟨m, rfl⟩ : ∃ m, k = m + 6 := ⟨k - 6, by omega⟩
  have h : ∀ m, logbooklaw31_awake.f 6 = some true → logbooklaw31_awake.f (m + 6) = some true := fun m h => by
    induction m with
    | zero => exact h
    | succ m ih => rw [show m + 1 + 6 = m + 6 + 1 by omega]; exact logbooklaw31_awake.mono (m + 6) _ ih
  exact h m (by decide +kernel)⟩
end QW
theorem QuoteWrites : logbooklaw31_QuoteWrites.Pure := by
  intro a0 hs
  refine Ev.at ?_
  refine Ev.both (fun _ => Ev.bind QW.awake_tells (Ev.now _)) (fun h => ?_)
  have hb := bytesOf_bytes a0
  have hl : (bytesOf a0).length = a0.size := bytesOf_length a0
  have hw := word_len (bytesOf a0)
  have e1 : quote_Word.f a0 = some (strOfNums (wordL (bytesOf a0))) := if_pos (by omega)
  have e3 : logbookref31_Word.f a0 = some (strOfNums (wordL (bytesOf a0))) := if_pos (by omega)
  have e2 : quote_Read.f (strOfNums (wordL (bytesOf a0))) = some (a0, true) := by
    unfold quote_Read.f
    rw [if_pos (by rw [size_str]; omega), bytes_str (word_bytes hb), read_word _ hb, str_bytes]
  exact Ev.bindc e1 (Ev.bindc e2 (Ev.bindc e1 (Ev.bindc e3 (Ev.pos rfl (Ev.pos rfl (Ev.pos rfl (Ev.bind QW.awake_tells (Ev.now _))))))))
end Go.Proofs.Ytfagbgkbmikccaa.Pure
