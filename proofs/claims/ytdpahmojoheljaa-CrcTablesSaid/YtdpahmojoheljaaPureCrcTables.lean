/- CrcTables: every entry of the table is the document's: in plain Lean. -/
import Derived.Test.YtdpahmojoheljaaPCrcTablesx1
import Derived.Test.YtdpahmojoheljaaEvs
namespace Go.Proofs.Ytdpahmojoheljaa.PureCrcTables
open Go.RowKit Go.Proofs.Ytdpahmojoheljaa.PCrcTables Go.Proofs.YtdpahmojoheljaaW.PrintWords Go.Proofs.YtdpahmojoheljaaW.PrintLast Go.Proofs.YtdpahmojoheljaaW.PrintMore Go.Proofs.Ytdpahmojoheljaa.Evs
set_option linter.unusedVariables false
set_option linter.unusedSimpArgs false
theorem bit_tells {c : Int} (h : U32 c) : logbookref03_bit.f c = some (cBit c) := by
  have h1 := h.1
  have h2 := h.2
  unfold logbookref03_bit.f cBit
  rw [Int.tmod_eq_emod_of_nonneg h1, Int.tdiv_eq_ediv_of_nonneg h1, show c / 2 % 4294967296 = c / 2 by omega]
  by_cases hc : c % 2 = 1
  · rw [if_pos hc, if_pos hc]
  · rw [if_neg hc, if_neg hc]
theorem entry_go : ∀ (d i : Nat) (c : Int), d + i = 8 → U32 c → Ev (fun k => logbookref03_Entry.l0 k c (i : Int)) (cEnt d c)
  | 0, i, c, hd, hc => Ev.step (fun k => logbookref03_Entry.l0.eq_2 _ _ _) (Ev.neg (by omega) (Ev.now _))
  | d + 1, i, c, hd, hc => by
    refine Ev.step (fun k => logbookref03_Entry.l0.eq_2 _ _ _) (Ev.pos (by omega) (Ev.bindc (bit_tells hc) ?_))
    rw [show wrap64 ((i : Int) + 1) = ((i + 1 : Nat) : Int) by rw [w64 (by omega) (by omega)]; omega]
    exact entry_go d (i + 1) (cBit c) (by omega) (cBit_in hc)
theorem CrcTables (y0 : Int) (w0 : (Lit.int .u8 y0).wf = true) : ∃ k, logbooklaw03_CrcTables.f k y0 = some true := by
  have h := wf_u8 w0
  refine Ev.at ?_
  refine Ev.bind (entry_go 8 0 y0 rfl ⟨by omega, by omega⟩) (Ev.pos ⟨by omega, by omega, ?_⟩ (Ev.now _))
  unfold tabAt
  rw [Int.toNat_of_nonneg h.1]
end Go.Proofs.Ytdpahmojoheljaa.PureCrcTables
