-- LAID BY gprint.py: a scratch copy of the print, with functions that this session proved by hand among the printed ones
import Derived.Test.YtmoodnnfghbilaaDoorPCursorReadsx0
import Derived.Test.YtmoodnnfghbilaaDoorPCursorReadsx5
namespace Go.Proofs.YtmoodnnfghbilaaDoor.PCursorReads
open Go.RowKit Go.Proofs.YtmoodnnfghbilaaDoorW.PrintWords Go.Proofs.YtmoodnnfghbilaaDoorW.PrintLast Go.Proofs.YtmoodnnfghbilaaDoor.Conv Go.Proofs.YtmoodnnfghbilaaDoorW.PrintMore
attribute [local go_sem] max2_int min2_int max_two min_two max_three min_three max_four min_four gtr_less   -- for this text's walks alone
set_option linter.unusedVariables false
set_option linter.unusedSimpArgs false

-- GIVEN rounds=1 making=1 needs=logbook/logbookref29.digits,logbook/logbookref29.Text
/-! ### the reference's cursor: by hand: an array filled place by place -/
def refCur (k : Nat) (s : ByteArray) : Nat → Int → Option (List Int)
  | 0, _ => some []
  | d + 1, i => (logbookref29_digits.f k s i).bind fun r => if 0 ≤ r.2 ∧ r.2 ≤ 1000000000 then (refCur k s d (r.2 + 3)).bind fun q => some (r.1 :: q) else none
def refEnd (k : Nat) (s : ByteArray) : List Int → Option (Int × Int × Int × Int × Int × Int × Bool)
  | [a, b, c, d, e, f] => (logbookref29_Text.f k a b c d e f).bind fun t => if t.toList = s.toList then some (a, b, c, d, e, f, true) else some (0, 0, 0, 0, 0, 0, false)
  | _ => none
def logbookref29_Parse.f (k : Nat) (a0 : ByteArray) : Option (Int × Int × Int × Int × Int × Int × Bool) := (refCur k a0 6 2).bind (refEnd k a0)
theorem refCur_mono : ∀ s d i k, LeO (refCur k s d i) (refCur (k + 1) s d i)
  | s, 0, i, k => LeO.refl _
  | s, d + 1, i, k => by
    unfold refCur
    exact LeO.bind (logbookref29_digits.mono _ _ _) (fun r => LeO.ite (LeO.bind (refCur_mono s d _ k) (fun _ => LeO.refl _)) (LeO.refl _))
theorem refEnd_mono : ∀ s l k, LeO (refEnd k s l) (refEnd (k + 1) s l) := by
  intro s l k
  unfold refEnd
  split
  · exact LeO.bind (logbookref29_Text.mono _ _ _ _ _ _ _) (fun _ => LeO.refl _)
  · exact LeO.refl _
theorem logbookref29_Parse.mono : ∀ a0 k, LeO (logbookref29_Parse.f k a0) (logbookref29_Parse.f (k + 1) a0) := by
  intro a0 k
  unfold logbookref29_Parse.f
  exact LeO.bind (refCur_mono _ _ _ _) (fun _ => refEnd_mono _ _ _)
def rcur6 (acc : List Int) : Array Value := ((acc ++ List.replicate (6 - acc.length) 0).map (Value.int .u64)).toArray
theorem rcur6_get (acc : List Int) (q : Nat) (hq : acc.length = q ∧ q < 6) : (rcur6 acc)[q]? = some (.int .u64 0) := by
  unfold rcur6
  rw [List.getElem?_toArray, List.getElem?_map, List.getElem?_append_right (by omega), List.getElem?_replicate, if_pos (by omega)]
  rfl
theorem rcur6_put (acc : List Int) (q : Nat) (n : Int) (h : acc.length = q) (hq : q < 6) : rcur6 (acc ++ [n]) = (rcur6 acc).setIfInBounds q (.int .u64 n) := by
  subst h
  match acc, hq with
  | [], _ => rfl
  | [a], _ => rfl
  | [a, b], _ => rfl
  | [a, b, c], _ => rfl
  | [a, b, c, d], _ => rfl
  | [a, b, c, d, e], _ => rfl
  | a :: b :: c :: d :: e :: f :: r, hq => exact absurd hq (by simp only [List.length_cons]; omega)
set_option maxHeartbeats 6400000 in
set_option maxRecDepth 100000 in
theorem logbookref29_Parse.calls (k : Nat) (a0 : ByteArray) (r1 r2 r3 r4 r5 r6 : Int) (r7 : Bool) (w : World) (h : logbookref29_Parse.f k a0 = some (r1, r2, r3, r4, r5, r6, r7)) :
    Calls Tryd.prog 16 #[.string a0] w fun e w' => e = .returned (.tuple #[.agg #[.int .u64 r1, .int .u64 r2, .int .u64 r3, .int .u64 r4, .int .u64 r5, .int .u64 r6], .bool r7]) ∧ Below w.heap.size w w' := by
  unfold logbookref29_Parse.f at h
  obtain ⟨l, hl, h2⟩ := Option.bind_eq_some_iff.1 h
  clear h
  have hu := Tryd.underlying23
  have HBX : Hid (Below w.heap.size w ((w.alloc (.cells #[.int .u64 0, .int .u64 0, .int .u64 0, .int .u64 0, .int .u64 0, .int .u64 0] 23)).alloc (.cells #[.int .u64 0, .int .u64 0, .int .u64 0, .int .u64 0, .int .u64 0, .int .u64 0] 23))) := Lib.hid (((Below.refl _ _).alloc (Nat.le_refl _) _).alloc (by simp) _)
  have HR0 : Hid (((w.alloc (.cells #[.int .u64 0, .int .u64 0, .int .u64 0, .int .u64 0, .int .u64 0, .int .u64 0] 23)).alloc (.cells #[.int .u64 0, .int .u64 0, .int .u64 0, .int .u64 0, .int .u64 0, .int .u64 0] 23)).heap[w.heap.size]? = some (.cells #[.int .u64 0, .int .u64 0, .int .u64 0, .int .u64 0, .int .u64 0, .int .u64 0] 23 (0, 0))) := Lib.hid (blk_alloc (heap_alloc_new _ _) _)
  have hR1 := heap_alloc_new (w.alloc (.cells #[.int .u64 0, .int .u64 0, .int .u64 0, .int .u64 0, .int .u64 0, .int .u64 0] 23)) (.cells #[.int .u64 0, .int .u64 0, .int .u64 0, .int .u64 0, .int .u64 0, .int .u64 0] 23)
  rw [show (w.alloc (.cells #[.int .u64 0, .int .u64 0, .int .u64 0, .int .u64 0, .int .u64 0, .int .u64 0] 23)).heap.size = w.heap.size + 1 by simp] at hR1
  have HR1 := Lib.hid hR1
  obtain ⟨R0, hR0⟩ : ∃ R, R = refCur k a0 6 2 := ⟨_, rfl⟩
  rw [← hR0] at hl
  have HST : Hid (R0 = (refCur k a0 (6 - 0) 2).bind (fun o => some ([] ++ o))) := Lib.hid (by
    rw [hR0]
    show _ = (refCur k a0 6 2).bind _
    cases refCur k a0 6 2 with
    | none => rfl
    | some o => rfl)
  have HL := Lib.hid hl
  clear hR0
  have HE := Lib.hid h2
  clear hl h2 hR1
  go_enter Tryd.func16, Tryd.ntmps16
  go_wp2
  go_loopw [6, 5] (fun i at_ wr => ∃ (q : Nat) (acc : List Int) (z : Int), q ≤ 6 ∧ acc.length = q ∧ i = .int .i64 q ∧ at_ = .int .i64 z ∧ 0 ≤ z ∧ z ≤ 1000000003 ∧ Hid (R0 = (refCur k a0 (6 - q) z).bind (fun o => some (acc ++ o))) ∧ Hid (wr.heap[w.heap.size]? = some (.cells #[.int .u64 0, .int .u64 0, .int .u64 0, .int .u64 0, .int .u64 0, .int .u64 0] 23 (0, 0))) ∧ Hid (wr.heap[w.heap.size + 1]? = some (.cells (rcur6 acc) 23 (0, 0))) ∧ Hid (Below w.heap.size w wr)) (fun i _ _ => 6 - (intOf i).toNat)
  case atStart =>
    exact ⟨0, [], 2, by omega, rfl, rfl, rfl, by omega, by omega, HST, HR0, HR1, HBX⟩
  case round =>
    obtain ⟨q, acc, z, hq, hac, rfl, rfl, hz0, hz1, hcg, hO0, hO, hBr⟩ := hrel
    by_cases hlt : q < 6
    · have h := HL.out
      obtain ⟨d, hd⟩ : ∃ d, 6 - q = d + 1 := ⟨5 - q, by omega⟩
      have hcg2 := hcg.out
      rw [hd, refCur] at hcg2
      rw [hcg2] at h
      obtain ⟨o1, ho1, _⟩ := Option.bind_eq_some_iff.1 h
      obtain ⟨⟨n, z2⟩, hn, ho2⟩ := Option.bind_eq_some_iff.1 ho1
      by_cases hz2 : 0 ≤ z2 ∧ z2 ≤ 1000000000
      case neg => rw [if_neg hz2] at ho2; cases ho2
      obtain ⟨hz3, hz4⟩ := hz2
      have HN : Hid (R0 = (refCur k a0 (6 - (q + 1)) (z2 + 3)).bind (fun o => some ((acc ++ [n]) ++ o))) := Lib.hid (by
        rw [hcg2, hn, show 6 - (q + 1) = d by omega]
        show (if 0 ≤ z2 ∧ z2 ≤ 1000000000 then (refCur k a0 d (z2 + 3)).bind fun q => some (n :: q) else none).bind _ = _
        rw [if_pos ⟨hz3, hz4⟩]
        cases refCur k a0 d (z2 + 3) with
        | none => rfl
        | some o => simp)
      have HD := Lib.hid hn
      have q0 : (0 : Int) ≤ (q : Int) := by omega
      have q1 : (q : Int) < 6 := by omega
      clear h hd hcg2 ho1 ho2 hn hcg
      go_wp2_with (first
        | (go_at_call 25; (with_reducible refine (logbookref29_digits.calls k a0 _ n z2 _ HD.out).mono ?_); rintro e w3 ⟨rfl, nd, rfl⟩; have HB' := Lib.hid (pw_below_drewN hBr.out nd); have HO0' : Hid ((wr.drewN nd).heap[w.heap.size]? = some (.cells #[.int .u64 0, .int .u64 0, .int .u64 0, .int .u64 0, .int .u64 0, .int .u64 0] 23 (0, 0))) := Lib.hid hO0.out; have HO' : Hid ((wr.drewN nd).heap[w.heap.size + 1]? = some (.cells (rcur6 acc) 23 (0, 0))) := Lib.hid hO.out; have k5 := blk_cell HO'.out q; have f5 := blk_frozen HO'.out q; rw [rcur6_get acc q ⟨hac, by omega⟩] at k5))
      go_roundw
      case rel => exact ⟨q + 1, acc ++ [n], z2 + 3, by omega, by rw [List.length_append, hac]; rfl, by go_num, rfl, by omega, by omega, HN, Lib.hid (by rw [Below.heap_setCell _ _ _ _ (by simp)]; exact HO0'.out), Lib.hid (by rw [rcur6_put acc q n hac (by omega)]; exact blk_put HO'.out q _ rfl), Lib.hid (HB'.out.setCell (by simp) _)⟩
      case measure => simp [intOf]; omega
    · obtain rfl : q = 6 := by omega
      have h := HL.out
      rw [hcg.out] at h
      match acc, hac with
      | [x1, x2, x3, x4, x5, x6], _ =>
        have hl2 : l = [x1, x2, x3, x4, x5, x6] := by
          have h' : some ([x1, x2, x3, x4, x5, x6] ++ []) = some l := h
          rw [List.append_nil] at h'
          exact (Option.some.inj h').symm
        have he := HE.out
        rw [hl2] at he
        obtain ⟨tx, ht, he2⟩ := Option.bind_eq_some_iff.1 (show ((logbookref29_Text.f k x1 x2 x3 x4 x5 x6).bind fun t => if t.toList = a0.toList then some (x1, x2, x3, x4, x5, x6, true) else some (0, 0, 0, 0, 0, 0, false)) = some (r1, r2, r3, r4, r5, r6, r7) from he)
        have hO6 : Hid (wr.heap[w.heap.size + 1]? = some (.cells #[.int .u64 x1, .int .u64 x2, .int .u64 x3, .int .u64 x4, .int .u64 x5, .int .u64 x6] 23 (0, 0))) := hO
        have k0 := blk_cell hO6.out 0
        have k1 := blk_cell hO6.out 1
        have k2 := blk_cell hO6.out 2
        have k3 := blk_cell hO6.out 3
        have k4 := blk_cell hO6.out 4
        have k5 := blk_cell hO6.out 5
        simp at k0 k1 k2 k3 k4 k5
        have HT := Lib.hid ht
        clear h hcg hO he ht hl2
        by_cases hse : tx.toList = a0.toList
        · rw [if_pos hse] at he2
          have hz : Hid (r1 = x1 ∧ r2 = x2 ∧ r3 = x3 ∧ r4 = x4 ∧ r5 = x5 ∧ r6 = x6 ∧ r7 = true) := Lib.hid (by
            simp only [Option.some.injEq, Prod.mk.injEq] at he2
            obtain ⟨rfl, rfl, rfl, rfl, rfl, rfl, rfl⟩ := he2
            exact ⟨rfl, rfl, rfl, rfl, rfl, rfl, rfl⟩)
          have hsb : (tx.toList == a0.toList) = true := by simp [hse]
          clear he2 hse
          go_wp2_with (first
            | (go_at_call 13; (with_reducible refine (logbookref29_Text.calls k x1 x2 x3 x4 x5 x6 tx _ HT.out).mono ?_); rintro e w4 ⟨rfl, hb4⟩; have HB4 : Hid (Below w.heap.size w w4) := Lib.hid (hBr.out.trans (hb4.mono hBr.out.size)); have HO4 := Lib.hid (blk_below hO6.out hb4); have HZ4 := Lib.hid (blk_below hO0.out hb4); clear k0 k1 k2 k3 k4 k5; have k0 := blk_cell HO4.out 0; have k1 := blk_cell HO4.out 1; have k2 := blk_cell HO4.out 2; have k3 := blk_cell HO4.out 3; have k4 := blk_cell HO4.out 4; have k5 := blk_cell HO4.out 5; simp at k0 k1 k2 k3 k4 k5; clear hb4)
            | (refine store_ev rfl 23 _ _ rfl rfl w.heap.size #[.int .u64 x1, .int .u64 x2, .int .u64 x3, .int .u64 x4, .int .u64 x5, .int .u64 x6] rfl rfl 23 _ HZ4.out (by kernel_rfl) (by kernel_rfl) (by kernel_rfl) ?_; intro w9 hb9 hp9; have HB9 := Lib.hid hb9; have HP9 := Lib.hid hp9; clear hb9 hp9))
          refine bodyPost_ret (results_ct rfl _ _ w.heap.size 23 #[.int .u64 x1, .int .u64 x2, .int .u64 x3, .int .u64 x4, .int .u64 x5, .int .u64 x6] (0, 0) _ rfl HB9.out hu rfl (by kernel_rfl)) rfl ?_
          obtain ⟨rfl, rfl, rfl, rfl, rfl, rfl, rfl⟩ := hz.out
          exact ⟨rfl, HP9.out.below HB4.out (Nat.le_refl _)⟩
        · rw [if_neg hse] at he2
          have hz : Hid (r1 = 0 ∧ r2 = 0 ∧ r3 = 0 ∧ r4 = 0 ∧ r5 = 0 ∧ r6 = 0 ∧ r7 = false) := Lib.hid (by
            simp only [Option.some.injEq, Prod.mk.injEq] at he2
            obtain ⟨rfl, rfl, rfl, rfl, rfl, rfl, rfl⟩ := he2
            exact ⟨rfl, rfl, rfl, rfl, rfl, rfl, rfl⟩)
          have hsb : (tx.toList == a0.toList) = false := by simp [hse]
          clear he2 hse
          go_wp2_with (first
            | (go_at_call 13; (with_reducible refine (logbookref29_Text.calls k x1 x2 x3 x4 x5 x6 tx _ HT.out).mono ?_); rintro e w4 ⟨rfl, hb4⟩; have HB4 : Hid (Below w.heap.size w w4) := Lib.hid (hBr.out.trans (hb4.mono hBr.out.size)); have HZ4 := Lib.hid (blk_below hO0.out hb4); clear hb4)
            | (refine store_ev rfl 23 _ _ rfl rfl w.heap.size #[.int .u64 0, .int .u64 0, .int .u64 0, .int .u64 0, .int .u64 0, .int .u64 0] rfl rfl 23 _ HZ4.out (by kernel_rfl) (by kernel_rfl) (by kernel_rfl) ?_; intro w9 hb9 hp9; have HB9 := Lib.hid hb9; have HP9 := Lib.hid hp9; clear hb9 hp9))
          refine bodyPost_ret (results_ct rfl _ _ w.heap.size 23 #[.int .u64 0, .int .u64 0, .int .u64 0, .int .u64 0, .int .u64 0, .int .u64 0] (0, 0) _ rfl HB9.out hu rfl (by kernel_rfl)) rfl ?_
          obtain ⟨rfl, rfl, rfl, rfl, rfl, rfl, rfl⟩ := hz.out
          exact ⟨rfl, HP9.out.below HB4.out (Nat.le_refl _)⟩

end Go.Proofs.YtmoodnnfghbilaaDoor.PCursorReads
