/- ExprNobody: no expression takes anything; the chapter's example: in plain Lean. -/
import Derived.Test.YtajlgbonapfckaaPExprNobodyx
import Derived.Test.YtajlgbonapfckaaStr
import Derived.Test.YtajlgbonapfckaaEvs
import Derived.Test.YtajlgbonapfckaaSrt
namespace Go.Proofs.Ytajlgbonapfckaa.Pure
open Go.RowKit Go.Proofs.Ytajlgbonapfckaa.PExprNobody Go.Proofs.YtajlgbonapfckaaW.PrintWords Go.Proofs.YtajlgbonapfckaaW.PrintMore Go.Proofs.Ytajlgbonapfckaa.Evs Go.Proofs.Ytajlgbonapfckaa.Str Go.Proofs.Ytajlgbonapfckaa.Conv Go.Proofs.Ytajlgbonapfckaa.Srt
set_option linter.unusedVariables false
set_option linter.unusedSimpArgs false
namespace IE
def RF (l : List ByteArray) : Prop := l.Pairwise ltF
theorem uniqueF : ∀ a b : List ByteArray, RF a → RF b → (∀ x, x ∈ a ↔ x ∈ b) → a = b
  | [], [], _, _, _ => rfl
  | [], y :: b, _, _, h => absurd ((h y).2 (by simp)) (by simp)
  | x :: a, [], _, _, h => absurd ((h x).1 (by simp)) (by simp)
  | x :: a, y :: b, ha, hb, h => by
    obtain ⟨a1, a2⟩ := List.pairwise_cons.1 ha
    obtain ⟨b1, b2⟩ := List.pairwise_cons.1 hb
    have e : x = y := by
      rcases List.mem_cons.1 ((h x).1 (by simp)) with e | h1
      · exact e
      · rcases List.mem_cons.1 ((h y).2 (by simp)) with e | h2
        · exact e.symm
        · exact absurd (ltF_trans (a1 y h2) (b1 x h1)) (ltF_irrefl x)
    subst e
    congr 1
    refine uniqueF a b a2 b2 (fun z => ⟨fun hz => ?_, fun hz => ?_⟩)
    · rcases List.mem_cons.1 ((h z).1 (List.mem_cons_of_mem _ hz)) with e | h1
      · rw [e] at hz
        exact absurd (a1 x hz) (ltF_irrefl x)
      · exact h1
    · rcases List.mem_cons.1 ((h z).2 (List.mem_cons_of_mem _ hz)) with e | h1
      · rw [e] at hz
        exact absurd (b1 x hz) (ltF_irrefl x)
      · exact h1
/-! the program -/
def mkb (t : T) : ByteArray := ⟨t.toArray⟩
theorem mkb_data (s : ByteArray) : mkb s.data.toList = s := by
  unfold mkb
  cases s
  simp
theorem comp_mem2 (zs : List T) : ∀ m, m ≤ zs.length → ∀ j, j < m → zs.toArray[j]! ∈ Lib.compactUpTo zs.toArray m
  | 0, _, j, hj => by omega
  | m + 1, hm, j, hj => by
    rw [Lib.compactUpTo_succ]
    rcases Nat.lt_or_ge j m with h1 | h1
    · exact List.mem_append_left _ (comp_mem2 zs m (by omega) j h1)
    · obtain rfl : j = m := by omega
      cases hk : Lib.keeps zs.toArray j with
      | true => simp
      | false =>
        have hk2 : ¬ (j = 0 ∨ zs.toArray[j]! ≠ zs.toArray[j - 1]!) := of_decide_eq_false hk
        have h0 : j ≠ 0 := fun e => hk2 (.inl e)
        have e : zs.toArray[j]! = zs.toArray[j - 1]! := Classical.byContradiction fun e => hk2 (.inr e)
        rw [e]
        exact List.mem_append_left _ (comp_mem2 zs j (by omega) (j - 1) (by omega))
theorem compact_mem (zs : List T) (t : T) : t ∈ Lib.compact zs ↔ t ∈ zs := by
  constructor
  · exact fun h => (comp_sub zs).subset h
  · intro h
    obtain ⟨j, hj, e⟩ := List.mem_iff_getElem.1 h
    have h2 := comp_mem2 zs _ (Nat.le_refl _) j hj
    rw [getE _ j hj, e] at h2
    exact h2
def rT (a b : T) : Prop := ¬ ltF (mkb b) (mkb a)
theorem rT_trans {a b c : T} (h : rT a b) (k : rT b c) : rT a c := ltF_ntrans k h
theorem rT_refl (a : T) : rT a a := ltF_irrefl _
theorem rT_anti {a b : T} (h : rT a b) (k : rT b a) : a = b := by
  have := ltF_total k h
  have e := congrArg (fun s : ByteArray => s.data.toList) this
  exact e
theorem comp_strictR (zs : List T) (h : zs.Pairwise rT) : ∀ m, m ≤ zs.length → (Lib.compactUpTo zs.toArray m).Pairwise (fun a b => rT a b ∧ a ≠ b) ∧ ∀ x ∈ Lib.compactUpTo zs.toArray m, 0 < m ∧ rT x zs.toArray[m - 1]!
  | 0, _ => ⟨by simp [Lib.compactUpTo], fun x hx => by simp [Lib.compactUpTo] at hx⟩
  | m + 1, hm => by
    obtain ⟨h1, h2⟩ := comp_strictR zs h m (by omega)
    have hstep : 0 < m → rT zs.toArray[m - 1]! zs.toArray[m]! := fun h0 => by
      rw [getE zs (m - 1) (by omega), getE zs m (by omega)]
      exact List.pairwise_iff_getElem.1 h (m - 1) m (by omega) (by omega) (by omega)
    rw [Lib.compactUpTo_succ]
    have ht : m + 1 - 1 = m := by omega
    rw [ht]
    cases hk : Lib.keeps zs.toArray m with
    | false =>
      simp only [Bool.false_eq_true, if_false, List.append_nil]
      exact ⟨h1, fun x hx => ⟨by omega, rT_trans (h2 x hx).2 (hstep (h2 x hx).1)⟩⟩
    | true =>
      simp only [if_true]
      refine ⟨List.pairwise_append.2 ⟨h1, by simp, fun a ha b hb => ?_⟩, fun x hx => ?_⟩
      · rw [List.mem_singleton.1 hb]
        obtain ⟨h0, h3⟩ := h2 a ha
        refine ⟨rT_trans h3 (hstep h0), fun e => ?_⟩
        have hne : zs.toArray[m]! ≠ zs.toArray[m - 1]! := by
          have := of_decide_eq_true hk
          rcases this with h' | h'
          · omega
          · exact h'
        apply hne
        have h4 : rT zs.toArray[m]! zs.toArray[m - 1]! := by rw [← e]; exact h3
        exact rT_anti h4 (hstep h0)
      · rcases List.mem_append.1 hx with hx | hx
        · exact ⟨by omega, rT_trans (h2 x hx).2 (hstep (h2 x hx).1)⟩
        · rw [List.mem_singleton.1 hx]
          exact ⟨by omega, rT_refl _⟩
theorem srt_mem (l : List ByteArray) (hF : ∀ x ∈ l, (item_Field.f x).isSome = true) (x : ByteArray) : x ∈ srtF l ↔ x ∈ l := by
  unfold srtF
  have hp := (List.mergeSort_perm (liftF l) fun x y => !(Go.Proofs.ltOf cmpT) y x).map (fun x : FTx => x.1)
  rw [hp.mem_iff, liftF_val l hF]
theorem srt_rises (l : List ByteArray) : (srtF l).Pairwise fun a b => ¬ ltF b a := by
  unfold srtF
  rw [List.pairwise_map]
  have h := List.pairwise_mergeSort (le := fun x y : FTx => !(Go.Proofs.ltOf cmpT) y x) (fun a b c h k => by
    simp only [Bool.not_eq_true'] at h k ⊢
    exact swoT.ntrans c b a k h) (fun a b => by
    cases h1 : Go.Proofs.ltOf cmpT b a with
    | false => rfl
    | true =>
      have : Go.Proofs.ltOf cmpT a b = false := (ltOf_no a b).2 (fun e => ltF_irrefl _ (ltF_trans e ((ltOf_iff b a).1 h1)))
      rw [this]
      rfl) (liftF l)
  refine h.imp (fun {a b} h => ?_)
  simp only [Bool.not_eq_true'] at h
  exact (ltOf_no b a).1 h
theorem compB_form (l : List ByteArray) : compB l = (Lib.compact (l.map (·.data.toList))).map mkb := rfl
theorem prog_mem (l : List ByteArray) (hF : ∀ x ∈ l, (item_Field.f x).isSome = true) (x : ByteArray) : x ∈ compB (srtF l) ↔ x ∈ l := by
  rw [compB_form, ← srt_mem l hF]
  constructor
  · intro h
    obtain ⟨t, ht, rfl⟩ := List.mem_map.1 h
    obtain ⟨y, hy, rfl⟩ := List.mem_map.1 ((compact_mem _ _).1 ht)
    rw [mkb_data]
    exact hy
  · intro h
    exact List.mem_map.2 ⟨x.data.toList, (compact_mem _ _).2 (List.mem_map.2 ⟨x, h, rfl⟩), mkb_data x⟩
theorem prog_rises (l : List ByteArray) : RF (compB (srtF l)) := by
  rw [compB_form]
  unfold RF
  rw [List.pairwise_map]
  have hz : ((srtF l).map (·.data.toList)).Pairwise rT := by
    rw [List.pairwise_map]
    refine (srt_rises l).imp (fun {a b} h => ?_)
    unfold rT
    rw [mkb_data, mkb_data]
    exact h
  refine (comp_strictR _ hz _ (Nat.le_refl _)).1.imp (fun {a b} h => ?_)
  refine Classical.byContradiction fun k => h.2 ?_
  exact rT_anti h.1 k
/-! ### the chapter's example -/
instance (a b : ByteArray) : Decidable (ltF a b) := by unfold ltF; infer_instance
theorem sorted_is {l : List ByteArray} (hF : ∀ x ∈ l, (item_Field.f x).isSome = true) (hl : l.length ≤ 1000000) (hr : RF l) : item_Sorted.f l = some l := by
  unfold item_Sorted.f
  rw [if_pos ⟨by omega, hF⟩, uniqueF _ l (prog_rises l) hr (fun x => prog_mem l hF x)]
theorem fa1 : item_Field.f a1S = some ⟨#[65]⟩ := by decide +kernel
theorem fa2 : item_Field.f a2S = some ⟨#[65]⟩ := by decide +kernel
theorem fb1 : item_Field.f b1S = some ⟨#[66]⟩ := by decide +kernel
theorem f3 : ∀ x ∈ [a1S, a2S, b1S], (item_Field.f x).isSome = true := by
  intro x hx
  simp only [List.mem_cons, List.not_mem_nil, or_false] at hx
  rcases hx with rfl | rfl | rfl
  · rw [fa1]; rfl
  · rw [fa2]; rfl
  · rw [fb1]; rfl
theorem r3 : RF [a1S, a2S, b1S] := by
  unfold RF
  decide +kernel
theorem r2 : RF [a1S, a2S] := by
  unfold RF
  decide +kernel
theorem r1 : RF [a1S] := by
  unfold RF
  decide +kernel
theorem m1 : expr_Expr_Match.f a1S [[[]]] 0 = some ([[[a1S]]], 1, 0) := by
  have h : item_Sorted.f [a1S] = some [a1S] := sorted_is (fun x hx => f3 x (by simp_all)) (by simp) r1
  show (item_Field.f a1S).bind _ = _
  rw [fa1]
  show (item_Sorted.f [a1S]).bind _ = _
  rw [h]
  show some (_, wrap64 (0 + 1), _) = _
  rw [show wrap64 ((0 : Int) + 1) = 1 by decide +kernel]
  rfl
theorem m2 : expr_Expr_Match.f a2S [[[a1S]]] 1 = some ([[[a1S, a2S]]], 2, 0) := by
  have h : item_Sorted.f [a1S, a2S] = some [a1S, a2S] := sorted_is (fun x hx => f3 x (by simp only [List.mem_cons, List.not_mem_nil, or_false] at hx ⊢; rcases hx with h | h <;> simp [h])) (by simp) r2
  show (item_Field.f a2S).bind _ = _
  rw [fa2]
  show (item_Sorted.f [a1S, a2S]).bind _ = _
  rw [h]
  show some (_, wrap64 (1 + 1), _) = _
  rw [show wrap64 ((1 : Int) + 1) = 2 by decide +kernel]
  rfl
theorem m3 : expr_Expr_Match.f b1S [[[a1S, a2S]]] 2 = some ([[[a1S, a2S, b1S]]], 3, 0) := by
  have h : item_Sorted.f [a1S, a2S, b1S] = some [a1S, a2S, b1S] := sorted_is f3 (by simp) r3
  show (item_Field.f b1S).bind _ = _
  rw [fb1]
  show (item_Sorted.f [a1S, a2S, b1S]).bind _ = _
  rw [h]
  show some (_, wrap64 (2 + 1), _) = _
  rw [show wrap64 ((2 : Int) + 1) = 3 by decide +kernel]
  rfl
theorem aw3 : awk3 [a1S, a2S, b1S] [[[]]] 0 = some ([[[a1S, a2S, b1S]]], true) := by
  rw [awk3, m1]
  show awk3 [a2S, b1S] [[[a1S]]] 1 = _
  rw [awk3, m2]
  show awk3 [b1S] [[[a1S, a2S]]] 2 = _
  rw [awk3, m3]
  rfl
theorem lv3 : expr_Expr_Levels.f [[[a1S, a2S, b1S]]] = some [[[a1S, a2S, b1S]]] := by
  unfold expr_Expr_Levels.f
  rw [if_pos (by
    refine ⟨by simp, fun l hl => ?_⟩
    rw [List.mem_singleton.1 hl]
    refine ⟨by simp, fun c hc => ?_⟩
    rw [List.mem_singleton.1 hc]
    simp)]
  rfl
theorem c1 : expr_choice.f 20 [a1S, a2S, b1S] [a2S, b1S] = some true := by decide +kernel
theorem c2 : expr_choice.f 20 [a1S, a2S, b1S] [a1S, a2S] = some false := by decide +kernel
theorem is1 : Ev (fun k => expr_Expr_Is.f k [[[a1S, a2S, b1S]]] [a2S, b1S]) true :=
  Ev.bindc lv3 (Ev.bind (Ev.bind (Ev.of (fun k => expr_choice.mono _ _ k) c1) (Ev.pos rfl (Ev.now 0))) (Ev.pos (by decide) (Ev.now _)))
theorem is2 : Ev (fun k => expr_Expr_Is.f k [[[a1S, a2S, b1S]]] [a1S, a2S]) false :=
  Ev.bindc lv3 (Ev.bind (Ev.bind (Ev.of (fun k => expr_choice.mono _ _ k) c2) (Ev.neg (by decide) (Ev.now (-1)))) (Ev.neg (by decide) (Ev.now _)))
theorem awake_tells : Ev (fun k => logbooklaw26_awake.f k) true :=
  Ev.bindc aw3 (Ev.pos rfl (Ev.bind is1 (Ev.pos rfl (Ev.bind is2 (Ev.now _)))))
end IE
end Go.Proofs.Ytajlgbonapfckaa.Pure
namespace Go.Proofs.Ytajlgbonapfckaa.PureExprNobody
set_option linter.unusedVariables false
open Go.Proofs.Ytajlgbonapfckaa.PExprNobody
theorem ExprNobody (y0 : ByteArray) (w0 : y0.size ≤ 140737488351232) : ∃ k, logbooklaw26_ExprNobody.f k y0 = some true := Evs.Ev.at Pure.IE.awake_tells
end Go.Proofs.Ytajlgbonapfckaa.PureExprNobody
