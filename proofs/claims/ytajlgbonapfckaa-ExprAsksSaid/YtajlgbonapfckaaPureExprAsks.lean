/- The law ExprAsks in plain Lean. -/
import Derived.Test.YtajlgbonapfckaaExprBaseExprAsks
import Derived.Test.YtajlgbonapfckaaStr
import Derived.Test.YtajlgbonapfckaaEvs
import Derived.Test.YtajlgbonapfckaaSrt
namespace Go.Proofs.Ytajlgbonapfckaa.Pure
open Go.RowKit Go.Proofs.Ytajlgbonapfckaa.PExprAsks Go.Proofs.YtajlgbonapfckaaW.PrintWords Go.Proofs.YtajlgbonapfckaaW.PrintMore Go.Proofs.Ytajlgbonapfckaa.Evs Go.Proofs.Ytajlgbonapfckaa.Str Go.Proofs.Ytajlgbonapfckaa.Conv Go.Proofs.Ytajlgbonapfckaa.Srt
set_option linter.unusedVariables false
set_option linter.unusedSimpArgs false
namespace IE
/-! ### a choice, asked of items -/
open Classical in
/-- whether items have, of each field of a choice, one of its items -/
noncomputable def chB (c items : List ByteArray) : Bool := decide (∀ x ∈ c, ∃ y ∈ c, fieldV y = fieldV x ∧ y ∈ items)
open Classical in
noncomputable def gIn (items : List ByteArray) : ByteArray → Bool → List ByteArray → Bool
  | _, met, [] => met
  | fd, met, x :: t => if fieldV x = fd then gIn items fd (met || decide (x ∈ items)) t else met && gIn items (fieldV x) (decide (x ∈ items)) t
open Classical in
noncomputable def g0 (items : List ByteArray) : List ByteArray → Bool
  | [] => true
  | x :: t => gIn items (fieldV x) (decide (x ∈ items)) t
def FL (l : List ByteArray) : Prop := l.Pairwise fun a b => (fieldV a).data.toList < (fieldV b).data.toList ∨ fieldV a = fieldV b
theorem data_inj {a b : ByteArray} (h : a.data.toList = b.data.toList) : a = b := by
  cases a
  cases b
  exact congrArg ByteArray.mk (Array.toList_inj.1 h)
theorem FL_of_RF {l : List ByteArray} (h : RF l) : FL l := h.imp (fun {a b} h => by
  rcases h with h | ⟨h, _⟩
  · exact Or.inl h
  · exact Or.inr (data_inj h))
open Classical in
theorem gIn_spec (items : List ByteArray) : ∀ (l : List ByteArray) (fd : ByteArray) (met : Bool), FL l → (∀ x ∈ l, fd.data.toList < (fieldV x).data.toList ∨ fd = fieldV x) →
    (gIn items fd met l = true ↔ (met = true ∨ ∃ y ∈ l, fieldV y = fd ∧ y ∈ items) ∧ ∀ x ∈ l, fieldV x ≠ fd → ∃ y ∈ l, fieldV y = fieldV x ∧ y ∈ items)
  | [], fd, met, _, _ => by simp [gIn]
  | x :: t, fd, met, hl, hf => by
      obtain ⟨h1, h2⟩ := List.pairwise_cons.1 hl
      unfold gIn
      by_cases e : fieldV x = fd
      · rw [if_pos e, gIn_spec items t fd _ h2 (fun y hy => hf y (by simp [hy]))]
        constructor
        · rintro ⟨a, b⟩
          refine ⟨?_, fun y hy hne => ?_⟩
          · rcases a with a | ⟨y, hy, q⟩
            · rw [Bool.or_eq_true, decide_eq_true_eq] at a
              rcases a with a | a
              · exact Or.inl a
              · exact Or.inr ⟨x, by simp, e, a⟩
            · exact Or.inr ⟨y, by simp [hy], q⟩
          · rcases List.mem_cons.1 hy with rfl | hy
            · exact absurd e hne
            · obtain ⟨z, hz, q⟩ := b y hy hne
              exact ⟨z, by simp [hz], q⟩
        · rintro ⟨a, b⟩
          refine ⟨?_, fun y hy hne => ?_⟩
          · rw [Bool.or_eq_true, decide_eq_true_eq]
            rcases a with a | ⟨y, hy, q1, q2⟩
            · exact Or.inl (Or.inl a)
            · rcases List.mem_cons.1 hy with rfl | hy
              · exact Or.inl (Or.inr q2)
              · exact Or.inr ⟨y, hy, q1, q2⟩
          · obtain ⟨z, hz, q1, q2⟩ := b y (by simp [hy]) hne
            rcases List.mem_cons.1 hz with rfl | hz
            · exact absurd (q1.symm.trans e) hne
            · exact ⟨z, hz, q1, q2⟩
      · have hx := hf x (by simp)
        have hlt : fd.data.toList < (fieldV x).data.toList := hx.resolve_right (fun h => e h.symm)
        have hno : ∀ y ∈ t, fieldV y ≠ fd := fun y hy he => by
          rcases h1 y hy with h | h
          · rw [he] at h
            exact absurd (List.lt_trans hlt h) (List.lt_irrefl _)
          · exact e (h.trans he)
        rw [if_neg e, Bool.and_eq_true, gIn_spec items t (fieldV x) _ h2 h1]
        constructor
        · rintro ⟨a, b, c⟩
          refine ⟨Or.inl a, fun y hy _ => ?_⟩
          have key : ∃ z ∈ x :: t, fieldV z = fieldV x ∧ z ∈ items := by
            rcases b with b | ⟨z, hz, q⟩
            · exact ⟨x, by simp, rfl, of_decide_eq_true b⟩
            · exact ⟨z, by simp [hz], q⟩
          rcases List.mem_cons.1 hy with rfl | hy
          · exact key
          · by_cases e2 : fieldV y = fieldV x
            · rw [e2]
              exact key
            · obtain ⟨z, hz, q⟩ := c y hy e2
              exact ⟨z, by simp [hz], q⟩
        · rintro ⟨a, b⟩
          refine ⟨?_, ?_, fun y hy hne => ?_⟩
          · rcases a with a | ⟨y, hy, q1, _⟩
            · exact a
            · rcases List.mem_cons.1 hy with rfl | hy
              · exact absurd q1 e
              · exact absurd q1 (hno y hy)
          · obtain ⟨z, hz, q1, q2⟩ := b x (by simp) e
            rcases List.mem_cons.1 hz with rfl | hz
            · exact Or.inl (decide_eq_true q2)
            · exact Or.inr ⟨z, hz, q1, q2⟩
          · obtain ⟨z, hz, q1, q2⟩ := b y (by simp [hy]) (hno y hy)
            rcases List.mem_cons.1 hz with rfl | hz
            · exact absurd q1.symm hne
            · exact ⟨z, hz, q1, q2⟩
open Classical in
theorem g0_spec (items c : List ByteArray) (h : FL c) : g0 items c = chB c items := by
  apply Bool.eq_iff_iff.2
  unfold chB
  rw [decide_eq_true_eq]
  cases c with
  | nil => simp [g0]
  | cons x t =>
    obtain ⟨h1, h2⟩ := List.pairwise_cons.1 h
    unfold g0
    rw [gIn_spec items t (fieldV x) _ h2 h1]
    constructor
    · rintro ⟨a, b⟩ y hy
      have key : ∃ z ∈ x :: t, fieldV z = fieldV x ∧ z ∈ items := by
        rcases a with a | ⟨z, hz, q⟩
        · exact ⟨x, by simp, rfl, of_decide_eq_true a⟩
        · exact ⟨z, by simp [hz], q⟩
      by_cases e : fieldV y = fieldV x
      · rw [e]
        exact key
      · rcases List.mem_cons.1 hy with rfl | hy
        · exact absurd rfl e
        · obtain ⟨z, hz, q⟩ := b y hy e
          exact ⟨z, by simp [hz], q⟩
    · intro b
      refine ⟨?_, fun y hy hne => ?_⟩
      · obtain ⟨z, hz, q1, q2⟩ := b x (by simp)
        rcases List.mem_cons.1 hz with rfl | hz
        · exact Or.inl (decide_eq_true q2)
        · exact Or.inr ⟨z, hz, q1, q2⟩
      · obtain ⟨z, hz, q1, q2⟩ := b y (by simp [hy])
        rcases List.mem_cons.1 hz with rfl | hz
        · exact absurd q1.symm hne
        · exact ⟨z, hz, q1, q2⟩
open Classical in
theorem has_tells (items : List ByteArray) (s : ByteArray) (hl : items.length ≤ 64) (hr : Rises items) : Ev (fun k => item_Has.f k items s) (decide (s ∈ items)) := by
  obtain ⟨p, b, b1, b2⟩ := search_go items s hl hr items.length 0 items.length (by omega) (by omega) (by omega) (fun j h hj => by omega) (fun j h hj => by omega)
  have e : b = decide (s ∈ items) := by
    apply Bool.eq_iff_iff.2
    rw [b2, decide_eq_true_eq]
  rw [← e]
  exact Ev.bind b1 (Ev.now _)
open Classical in
theorem refhas_tells (items : List ByteArray) (s : ByteArray) (hl : items.length ≤ 64) : Ev (fun k => logbookref04_Has.f k items s) (decide (s ∈ items)) := by
  obtain ⟨b, b1, b2⟩ := refh_go items s hl items.length 0 (by omega)
  rw [List.drop_zero] at b2
  have e : b = decide (s ∈ items) := by
    apply Bool.eq_iff_iff.2
    rw [b2, decide_eq_true_eq]
  rw [← e]
  exact b1
theorem drop_rdb {l : List ByteArray} {i : Nat} (h : i < l.length) : l.drop i = rdOf ByteArray.empty l (i : Int) :: l.drop (i + 1) := by
  rw [List.drop_eq_getElem_cons h, rdb l i h]
theorem ci {i n : Nat} (h : i < n) (hn : n ≤ 1000000) : wrap64 ((i : Int) + 1) = ((i + 1 : Nat) : Int) := by unfold wrap64; omega
open Classical in
theorem choice_met (c items : List ByteArray) (hc : c.length ≤ 1000000) (hz : ∀ x ∈ c, x.size ≤ 140737488351232) (hl : items.length ≤ 64) (hr : Rises items) (i : Nat) (hlt : i < c.length) (x : ByteArray) (hx : rdOf ByteArray.empty c (i : Int) = x) (met : Bool) (r : Bool)
    (ih : ∀ m : Bool, m = (met || decide (x ∈ items)) → Ev (fun k => expr_choice.l1 k c items ((i + 1 : Nat) : Int) (fieldV x) m) r) : Ev (fun k => expr_choice.l1 k c items (i : Int) (fieldV x) met) r := by
  have hm : x ∈ c := by rw [← hx, rdb c i hlt]; exact List.getElem_mem hlt
  have hf := (fld x (hz _ hm)).1
  refine Ev.step (fun k => expr_choice.l1.eq_2 _ _ _ _ _ _) (Ev.pos (by omega) (Ev.pos (by omega) ?_))
  rw [hx, ci hlt hc]
  refine Ev.bindc hf (Ev.pos rfl ?_)
  cases met
  · refine Ev.neg (by decide) (Ev.bind (has_tells items x hl hr) (ih _ (by simp)))
  · exact Ev.pos rfl (ih true (by simp))
open Classical in
theorem choice_l1 (c items : List ByteArray) (hc : c.length ≤ 1000000) (hz : ∀ x ∈ c, x.size ≤ 140737488351232) (hl : items.length ≤ 64) (hr : Rises items) : ∀ (d i : Nat) (fd : ByteArray) (met : Bool), d + i = c.length → Ev (fun k => expr_choice.l1 k c items (i : Int) fd met) (gIn items fd met (c.drop i))
  | 0, i, fd, met, h => by
    rw [List.drop_of_length_le (by omega)]
    refine Ev.step (fun k => expr_choice.l1.eq_2 _ _ _ _ _ _) (Ev.neg (by omega) ?_)
    cases met
    · exact Ev.neg (by decide) (Ev.now _)
    · exact Ev.pos rfl (Ev.step (fun k => expr_choice.l0.eq_2 _ _ _ _) (Ev.neg (by omega) (Ev.now _)))
  | d + 1, i, fd, met, h => by
    have hlt : i < c.length := by omega
    generalize hx : rdOf ByteArray.empty c (i : Int) = x
    have hm : x ∈ c := by rw [← hx, rdb c i hlt]; exact List.getElem_mem hlt
    have hf := (fld x (hz _ hm)).1
    rw [drop_rdb hlt, hx]
    by_cases e : fieldV x = fd
    · subst e
      refine choice_met c items hc hz hl hr i hlt x hx met _ (fun m hm => ?_)
      rw [gIn, if_pos rfl, ← hm]
      exact choice_l1 c items hc hz hl hr d (i + 1) (fieldV x) m (by omega)
    · have e2 : ¬ (fieldV x).toList = fd.toList := fun h => e (toList_inj h)
      rw [gIn, if_neg e]
      refine Ev.step (fun k => expr_choice.l1.eq_2 _ _ _ _ _ _) (Ev.pos (by omega) (Ev.pos (by omega) ?_))
      rw [hx]
      refine Ev.bindc hf (Ev.neg e2 ?_)
      cases met
      · exact Ev.neg (by decide) (Ev.now _)
      · refine Ev.pos rfl (Ev.step (fun k => expr_choice.l0.eq_2 _ _ _ _) (Ev.pos (by omega) (Ev.pos (by omega) ?_)))
        rw [hx]
        refine Ev.bindc hf ?_
        rw [Bool.true_and]
        refine choice_met c items hc hz hl hr i hlt x hx false _ (fun m hm => ?_)
        rw [Bool.false_or] at hm
        rw [← hm]
        exact choice_l1 c items hc hz hl hr d (i + 1) (fieldV x) m (by omega)
theorem choice_tells (c items : List ByteArray) (hF : RF c) (hc : c.length ≤ 1000000) (hz : ∀ x ∈ c, x.size ≤ 140737488351232) (hl : items.length ≤ 64) (hr : Rises items) : Ev (fun k => expr_choice.f k c items) (chB c items) := by
  rw [← g0_spec items c (FL_of_RF hF)]
  show Ev (fun k => expr_choice.l0 k c items ((0 : Nat) : Int)) _
  cases c with
  | nil => exact Ev.step (fun k => expr_choice.l0.eq_2 _ _ _ _) (Ev.neg (by simp) (Ev.now _))
  | cons x t =>
    have hx : rdOf ByteArray.empty (x :: t) ((0 : Nat) : Int) = x := rdb (x :: t) 0 (by simp)
    have hf := (fld x (hz x (by simp))).1
    refine Ev.step (fun k => expr_choice.l0.eq_2 _ _ _ _) (Ev.pos (by simp only [List.length_cons]; omega) (Ev.pos (by omega) ?_))
    rw [hx]
    refine Ev.bindc hf ?_
    have h := choice_l1 (x :: t) items hc hz hl hr (x :: t).length 0 (fieldV x) false (by omega)
    rw [List.drop_zero] at h
    refine Ev.eq h ?_
    rw [gIn, if_pos rfl, Bool.false_or]
    rfl
/-! ### the reference: has, choice -/
def inB (a b : Int) (r : S61) : Bool := decide (r.f0 = a) && decide (r.f1 = b)
def hasB (rows : List S61) (a b : Int) : Bool := rows.any (inB a b)
theorem drop61 {l : List S61} {i : Nat} (h : i < l.length) : l.drop i = rd_T61 l (i : Int) :: l.drop (i + 1) := by
  rw [List.drop_eq_getElem_cons h]
  unfold rd_T61
  rw [Int.toNat_natCast, List.getD_eq_getElem?_getD, List.getElem?_eq_getElem h, Option.getD_some]
theorem mem61 {l : List S61} {i : Nat} (h : i < l.length) : rd_T61 l (i : Int) ∈ l := by
  have := drop61 h
  have h2 : rd_T61 l (i : Int) ∈ l.drop i := by rw [this]; simp
  exact List.mem_of_mem_drop h2
theorem rhas_go (rows : List S61) (hl : rows.length ≤ 1000000) (a b x y : Int) : ∀ (d i : Nat), d + i = rows.length → Ev (fun k => logbookref26_Expr_has.l0 k a b (i : Int) rows x y) (hasB (rows.drop i) a b, x, y)
  | 0, i, h => by
    rw [List.drop_of_length_le (by omega)]
    exact Ev.step (fun k => logbookref26_Expr_has.l0.eq_2 _ _ _ _ _ _ _) (Ev.neg (by omega) (Ev.now _))
  | d + 1, i, h => by
    have hlt : i < rows.length := by omega
    have ih := rhas_go rows hl a b x y d (i + 1) (by omega)
    rw [drop61 hlt]
    unfold hasB at ih ⊢
    rw [List.any_cons]
    refine Ev.step (fun k => logbookref26_Expr_has.l0.eq_2 _ _ _ _ _ _ _) (Ev.pos (by omega) (Ev.pos (by omega) ?_))
    rw [ci hlt hl]
    unfold inB at ih ⊢
    by_cases h1 : (rd_T61 rows (i : Int)).f0 = a
    · refine Ev.pos h1 ?_
      by_cases h2 : (rd_T61 rows (i : Int)).f1 = b
      · exact Ev.pos h2 (Ev.eq (Ev.now _) (by simp [h1, h2]))
      · exact Ev.neg h2 (Ev.eq ih (by simp [h1, h2]))
    · exact Ev.neg h1 (Ev.eq ih (by simp [h1]))
theorem rhas_tells (rows : List S61) (hl : rows.length ≤ 1000000) (x y a b : Int) : Ev (fun k => logbookref26_Expr_has.f k rows x y a b) (hasB rows a b, x, y) := by
  have h := rhas_go rows hl a b x y rows.length 0 (by omega)
  rw [List.drop_zero] at h
  exact h
open Classical in
noncomputable def metR (items : List ByteArray) (a b : Int) (fd : ByteArray) (rows : List S61) : Bool := rows.any fun r => inB a b r && (decide (fieldV r.f2 = fd) && decide (r.f2 ∈ items))
noncomputable def choR (items : List ByteArray) (rows : List S61) (a b : Int) (l : List S61) : Bool := l.all fun r => !inB a b r || metR items a b (fieldV r.f2) rows
open Classical in
theorem rch_l1 (items : List ByteArray) (rows : List S61) (hl : rows.length ≤ 1000000) (hz : ∀ r ∈ rows, r.f2.size ≤ 140737488351232) (hi : items.length ≤ 64) (a b x y : Int) (i : Nat) (hlt : i < rows.length) (r : Bool × Int × Int)
    (go : Ev (fun k => logbookref26_Expr_choice.l0 k a b items ((i + 1 : Nat) : Int) rows x y) r) : ∀ (d j : Nat) (met : Bool), d + j = rows.length →
    Ev (fun k => logbookref26_Expr_choice.l1 k a b items (i : Int) met (j : Int) rows x y) (if (met || metR items a b (fieldV (rd_T61 rows (i : Int)).f2) (rows.drop j)) = true then r else (false, x, y))
  | 0, j, met, h => by
    rw [List.drop_of_length_le (by omega)]
    refine Ev.step (fun k => logbookref26_Expr_choice.l1.eq_2 _ _ _ _ _ _ _ _ _ _) (Ev.neg (by omega) ?_)
    rw [ci hlt hl]
    cases met
    · exact Ev.neg (by decide) (Ev.eq (Ev.now _) (by simp [metR]))
    · exact Ev.pos rfl (Ev.eq go (by simp))
  | d + 1, j, met, h => by
    have hj : j < rows.length := by omega
    have ih := fun m => rch_l1 items rows hl hz hi a b x y i hlt r go d (j + 1) m (by omega)
    rw [drop61 hj]
    have fi := (fld _ (hz _ (mem61 hlt))).2
    have fj := (fld _ (hz _ (mem61 hj))).2
    refine Ev.step (fun k => logbookref26_Expr_choice.l1.eq_2 _ _ _ _ _ _ _ _ _ _) (Ev.pos (by omega) (Ev.pos (by omega) ?_))
    rw [ci hj hl]
    generalize hrj : rd_T61 rows (j : Int) = rj at fj
    generalize hri : rd_T61 rows (i : Int) = ri at fi ih
    have skip : inB a b rj = false → Ev (fun k => logbookref26_Expr_choice.l1 k a b items (i : Int) met ((j + 1 : Nat) : Int) rows x y) (if (met || metR items a b (fieldV ri.f2) (rj :: rows.drop (j + 1))) = true then r else (false, x, y)) := fun hn => by
      refine Ev.eq (ih met) ?_
      unfold metR
      rw [List.any_cons, hn, Bool.false_and, Bool.false_or]
    by_cases h1 : rj.f0 = a
    case neg => exact Ev.neg h1 (skip (by unfold inB; simp [h1]))
    refine Ev.pos h1 ?_
    by_cases h2 : rj.f1 = b
    case neg => exact Ev.neg h2 (skip (by unfold inB; simp [h2]))
    have hin : inB a b rj = true := by unfold inB; simp [h1, h2]
    refine Ev.pos h2 (Ev.bind fj (Ev.pos (by omega) (Ev.pos (by omega) ?_)))
    refine Ev.bind fi ?_
    by_cases e : fieldV rj.f2 = fieldV ri.f2
    · refine Ev.pos (congrArg ByteArray.toList e) ?_
      cases met
      · refine Ev.neg (by decide) (Ev.bind (refhas_tells items rj.f2 hi) (Ev.eq (ih _) ?_))
        unfold metR
        rw [List.any_cons, hin, decide_eq_true e, Bool.true_and, Bool.true_and, Bool.false_or]
      · exact Ev.pos rfl (Ev.eq (ih true) (by simp))
    · refine Ev.neg (fun h => e (toList_inj h)) (Ev.eq (ih met) ?_)
      unfold metR
      rw [List.any_cons, hin, decide_eq_false e, Bool.true_and, Bool.false_and, Bool.false_or]
theorem rch_l0 (items : List ByteArray) (rows : List S61) (hl : rows.length ≤ 1000000) (hz : ∀ r ∈ rows, r.f2.size ≤ 140737488351232) (hi : items.length ≤ 64) (a b x y : Int) : ∀ (d i : Nat), d + i = rows.length →
    Ev (fun k => logbookref26_Expr_choice.l0 k a b items (i : Int) rows x y) (choR items rows a b (rows.drop i), x, y)
  | 0, i, h => by
    rw [List.drop_of_length_le (by omega)]
    exact Ev.step (fun k => logbookref26_Expr_choice.l0.eq_2 _ _ _ _ _ _ _ _) (Ev.neg (by omega) (Ev.now _))
  | d + 1, i, h => by
    have hlt : i < rows.length := by omega
    have ih := rch_l0 items rows hl hz hi a b x y d (i + 1) (by omega)
    have hc : choR items rows a b (rows.drop i) = ((!inB a b (rd_T61 rows (i : Int)) || metR items a b (fieldV (rd_T61 rows (i : Int)).f2) rows) && choR items rows a b (rows.drop (i + 1))) := by
      rw [drop61 hlt]
      unfold choR
      rw [List.all_cons]
    rw [hc]
    have skip : inB a b (rd_T61 rows (i : Int)) = false → Ev (fun k => logbookref26_Expr_choice.j1 k a b items (i : Int) true rows x y) (((!inB a b (rd_T61 rows (i : Int)) || metR items a b (fieldV (rd_T61 rows (i : Int)).f2) rows) && choR items rows a b (rows.drop (i + 1))), x, y) := fun hn => by
      refine Ev.step (fun k => logbookref26_Expr_choice.j1.eq_2 _ _ _ _ _ _ _ _ _) (Ev.pos rfl ?_)
      rw [ci hlt hl]
      exact Ev.eq ih (by rw [hn]; simp)
    refine Ev.step (fun k => logbookref26_Expr_choice.l0.eq_2 _ _ _ _ _ _ _ _) (Ev.pos (by omega) (Ev.pos (by omega) ?_))
    by_cases h1 : (rd_T61 rows (i : Int)).f0 = a
    case neg => exact Ev.neg h1 (skip (by unfold inB; simp [h1]))
    refine Ev.pos h1 ?_
    by_cases h2 : (rd_T61 rows (i : Int)).f1 = b
    case neg =>
      rw [show ((rd_T61 rows (i : Int)).f1 != b) = true from bne_iff_ne.mpr h2]
      exact skip (by unfold inB; simp [h2])
    rw [show ((rd_T61 rows (i : Int)).f1 != b) = false from bne_eq_false_iff_eq.mpr h2]
    have hin : inB a b (rd_T61 rows (i : Int)) = true := by unfold inB; simp [h1, h2]
    refine Ev.step (fun k => logbookref26_Expr_choice.j1.eq_2 _ _ _ _ _ _ _ _ _) (Ev.neg (by decide) ?_)
    have h3 := rch_l1 items rows hl hz hi a b x y i hlt _ ih rows.length 0 false (by omega)
    rw [List.drop_zero, Bool.false_or] at h3
    refine Ev.eq h3 ?_
    rw [hin]
    cases metR items a b (fieldV (rd_T61 rows (i : Int)).f2) rows <;> simp
theorem rch_tells (items : List ByteArray) (rows : List S61) (hl : rows.length ≤ 1000000) (hz : ∀ r ∈ rows, r.f2.size ≤ 140737488351232) (hi : items.length ≤ 64) (x y a b : Int) : Ev (fun k => logbookref26_Expr_choice.f k rows x y a b items) (choR items rows a b rows, x, y) := by
  have h := rch_l0 items rows hl hz hi a b x y rows.length 0 (by omega)
  rw [List.drop_zero] at h
  exact h
/-! ### the reference: Is -/
def anyC (rows : List S61) (a : Int) : Nat → Nat → Bool
  | 0, _ => false
  | d + 1, c => hasB rows a (c : Int) || anyC rows a d (c + 1)
noncomputable def metC (items : List ByteArray) (rows : List S61) (a : Int) : Nat → Nat → Bool
  | 0, _ => false
  | d + 1, c => (hasB rows a (c : Int) && choR items rows a (c : Int) rows) || metC items rows a d (c + 1)
noncomputable def isR (items : List ByteArray) (rows : List S61) : Nat → Nat → Bool
  | 0, _ => true
  | d + 1, a => (!anyC rows (a : Int) 17 0 || metC items rows (a : Int) 17 0) && isR items rows d (a + 1)
theorem ris_l1 (items : List ByteArray) (rows : List S61) (hl : rows.length ≤ 1000000) (hz : ∀ r ∈ rows, r.f2.size ≤ 140737488351232) (hi : items.length ≤ 64) (a x y : Int) (r : Bool × Int × Int)
    (go : Ev (fun k => logbookref26_Expr_Is.l0 k items (wrap64 (a + 1)) rows x y) r) : ∀ (d c : Nat) (met any : Bool), d + c = 17 →
    Ev (fun k => logbookref26_Expr_Is.l1 k items a met any (c : Int) rows x y) (if (any || anyC rows a d c) = true then (if (met || metC items rows a d c) = true then r else (false, x, y)) else r)
  | 0, c, met, any, h => by
    refine Ev.step (fun k => logbookref26_Expr_Is.l1.eq_2 _ _ _ _ _ _ _ _ _) (Ev.neg (by omega) ?_)
    cases any
    · exact Ev.neg (by decide) (Ev.eq go (by simp [anyC]))
    · refine Ev.pos rfl ?_
      cases met
      · exact Ev.neg (by decide) (Ev.eq (Ev.now _) (by simp [metC]))
      · exact Ev.pos rfl (Ev.eq go (by simp))
  | d + 1, c, met, any, h => by
    have ih := fun m n => ris_l1 items rows hl hz hi a x y r go d (c + 1) m n (by omega)
    refine Ev.step (fun k => logbookref26_Expr_Is.l1.eq_2 _ _ _ _ _ _ _ _ _) (Ev.pos (by omega) (Ev.bind (rhas_tells rows hl x y a (c : Int)) ?_))
    rw [ci (i := c) (n := 17) (by omega) (by omega), anyC, metC]
    cases hb : hasB rows a (c : Int)
    · exact Ev.neg (by simp) (Ev.eq (ih met any) (by simp))
    · refine Ev.pos rfl ?_
      cases met
      · refine Ev.neg (by decide) (Ev.bind (rch_tells items rows hl hz hi x y a (c : Int)) (Ev.eq (ih _ true) ?_))
        simp
      · exact Ev.pos rfl (Ev.eq (ih true true) (by simp))
theorem ris_l0 (items : List ByteArray) (rows : List S61) (hl : rows.length ≤ 1000000) (hz : ∀ r ∈ rows, r.f2.size ≤ 140737488351232) (hi : items.length ≤ 64) (m : Nat) (hm : m ≤ 1000000) (y : Int) : ∀ (d a : Nat), d + a = m + 1 →
    Ev (fun k => logbookref26_Expr_Is.l0 k items (a : Int) rows (m : Int) y) (isR items rows d a, (m : Int), y)
  | 0, a, h => Ev.step (fun k => logbookref26_Expr_Is.l0.eq_2 _ _ _ _ _ _) (Ev.neg (by omega) (Ev.now _))
  | d + 1, a, h => by
    have ih := ris_l0 items rows hl hz hi m hm y d (a + 1) (by omega)
    rw [show ((a + 1 : Nat) : Int) = wrap64 ((a : Int) + 1) by unfold wrap64; omega] at ih
    refine Ev.step (fun k => logbookref26_Expr_Is.l0.eq_2 _ _ _ _ _ _) (Ev.pos (by omega) ?_)
    have h1 := ris_l1 items rows hl hz hi (a : Int) (m : Int) y _ ih 17 0 false false (by omega)
    refine Ev.eq h1 ?_
    rw [Bool.false_or, Bool.false_or, isR]
    cases anyC rows (a : Int) 17 0 <;> cases metC items rows (a : Int) 17 0 <;> simp
theorem ris_tells (items : List ByteArray) (rows : List S61) (hl : rows.length ≤ 1000000) (hz : ∀ r ∈ rows, r.f2.size ≤ 140737488351232) (hi : items.length ≤ 64) (m : Nat) (hm : m ≤ 1000000) (y : Int) : Ev (fun k => logbookref26_Expr_Is.f k rows (m : Int) y items) (isR items rows (m + 1) 0, (m : Int), y) :=
  ris_l0 items rows hl hz hi m hm y (m + 1) 0 (by omega)
/-! ### the program: Is -/
noncomputable def idxS (items : List ByteArray) : List (List ByteArray) → Nat → Int
  | [], _ => -1
  | c :: t, i => if chB c items = true then (i : Int) else idxS items t (i + 1)
theorem idxS_pos (items : List ByteArray) : ∀ (l : List (List ByteArray)) (i : Nat), 0 ≤ idxS items l i ↔ ∃ c ∈ l, chB c items = true
  | [], i => by simp [idxS]
  | c :: t, i => by
    unfold idxS
    by_cases h : chB c items = true
    · rw [if_pos h]
      exact ⟨fun _ => ⟨c, by simp, h⟩, fun _ => Int.natCast_nonneg _⟩
    · rw [if_neg h, idxS_pos items t (i + 1)]
      constructor
      · rintro ⟨c2, h1, h2⟩
        exact ⟨c2, by simp [h1], h2⟩
      · rintro ⟨c2, h1, h2⟩
        rcases List.mem_cons.1 h1 with rfl | h1
        · exact absurd h2 h
        · exact ⟨c2, h1, h2⟩
def okC (c : List ByteArray) : Prop := RF c ∧ c.length ≤ 1000000 ∧ ∀ x ∈ c, x.size ≤ 140737488351232
theorem idxC_tells (items : List ByteArray) (hl : items.length ≤ 64) (hr : Rises items) : ∀ (l : List (List ByteArray)) (i : Nat), (∀ c ∈ l, okC c) → Ev (fun k => idxC k items l i) (idxS items l i)
  | [], i, _ => Ev.now _
  | c :: t, i, h => by
    obtain ⟨h1, h2, h3⟩ := h c (by simp)
    unfold idxS
    refine Ev.bind (choice_tells c items h1 h2 h3 hl hr) ?_
    by_cases hb : chB c items = true
    · rw [if_pos hb]
      exact Ev.pos hb (Ev.now _)
    · rw [if_neg hb]
      exact Ev.neg hb (idxC_tells items hl hr t (i + 1) (fun c2 h4 => h c2 (by simp [h4])))
noncomputable def isS (items : List ByteArray) : List (List (List ByteArray)) → Bool
  | [] => true
  | l :: t => if 0 ≤ idxS items l 0 then isS items t else false
theorem isS_spec (items : List ByteArray) : ∀ ls : List (List (List ByteArray)), isS items ls = true ↔ ∀ l ∈ ls, ∃ c ∈ l, chB c items = true
  | [] => by simp [isS]
  | l :: t => by
    unfold isS
    by_cases h : 0 ≤ idxS items l 0
    · rw [if_pos h, isS_spec items t]
      have := (idxS_pos items l 0).1 h
      constructor
      · intro g l2 hl2
        rcases List.mem_cons.1 hl2 with rfl | hl2
        · exact this
        · exact g l2 hl2
      · exact fun g l2 hl2 => g l2 (by simp [hl2])
    · rw [if_neg h]
      constructor
      · intro g
        cases g
      · intro g
        exact absurd ((idxS_pos items l 0).2 (g l (by simp))) h
theorem isL_tells (items : List ByteArray) (hl : items.length ≤ 64) (hr : Rises items) : ∀ (ls : List (List (List ByteArray))), (∀ l ∈ ls, ∀ c ∈ l, okC c) → Ev (fun k => isL k items ls) (isS items ls)
  | [], _ => Ev.now _
  | l :: t, h => by
    unfold isS
    refine Ev.bind (idxC_tells items hl hr l 0 (h l (by simp))) ?_
    by_cases hb : 0 ≤ idxS items l 0
    · rw [if_pos hb]
      exact Ev.pos hb (isL_tells items hl hr t (fun l2 h2 => h l2 (by simp [h2])))
    · rw [if_neg hb]
      exact Ev.neg hb (Ev.now _)
/-! ### both states, side by side -/
theorem split_ok (s : ByteArray) (hs : s.size ≤ 140737488351232) : ∃ v, item_Split.f s = some v ∧ Ev (fun k => logbookref04_Split.f k s) v ∧ (v.2.2 = true ↔ ¬ v.1.size = 0) := by
  rcases idxE_cases (bytesOf s) with ⟨h1, h2⟩ | ⟨m, h1, h2, h3, h4⟩
  · refine ⟨_, split_miss s h1, ?_, ?_⟩
    · exact ref_miss s hs (fun j hj => by rw [bt_get]; exact h2 j (by rw [bytesOf_length]; exact hj)) s.size 0 (by omega)
    · constructor
      · intro h
        cases h
      · intro h
        exact absurd rfl h
  · rw [bytesOf_length] at h2
    refine ⟨_, split_hit s hs m h1 h2, ref_hit s hs m h2 (by rw [bt_get]; exact h3) (fun j hj => by rw [bt_get]; exact h4 j hj) m 0 (by omega), ?_⟩
    unfold splitV
    by_cases hn : nameV (s.extract 0 m) = true
    · rw [if_pos hn]
      refine ⟨fun _ h => ?_, fun _ => rfl⟩
      have h : (s.extract 0 m).size = 0 := h
      unfold nameV at hn
      rw [if_pos h] at hn
      cases hn
    · rw [if_neg hn]
      constructor
      · intro h
        cases h
      · intro h
        exact absurd rfl h
/-- a choice's items, as the rows have them -/
def Rows (L : List (List (List ByteArray))) (rows : List S61) : Prop := ∀ r : S61, r ∈ rows ↔ ∃ (i j : Nat) (l : List (List ByteArray)) (c : List ByteArray), L[i]? = some l ∧ l[j]? = some c ∧ r.f0 = (i : Int) ∧ r.f1 = (j : Int) ∧ r.f2 ∈ c
structure InvD (t : TwoS) (Ls : List (List (List ByteArray))) (ls : List (List ByteArray)) (c : List ByteArray) : Prop where
  eq : t.L = Ls ++ [ls ++ [c]]
  lv : t.lv = (Ls.length : Int)
  ch : t.ch = (ls.length : Int)
  n : t.n = (t.rows.length : Int)
  n16 : t.rows.length ≤ 16
  mem : Rows t.L t.rows
  ok : ∀ l ∈ t.L, ∀ c ∈ l, RF c ∧ (∀ x ∈ c, x.size ≤ 1024) ∧ c.length ≤ 16
  clen : c.length ≤ t.rows.length
  l17 : ∀ l ∈ t.L, l.length ≤ 17
  full : ∀ d ∈ ls, d ≠ []
  lcnt : ls.length ≤ t.rows.length ∧ (c ≠ [] → ls.length + 1 ≤ t.rows.length)
  fcnt : Ls.length ≤ t.rows.length ∧ (ls ≠ [] ∨ c ≠ [] → Ls.length + 1 ≤ t.rows.length)
def Inv (t : TwoS) : Prop := ∃ Ls ls c, InvD t Ls ls c
theorem inv0 : Inv T00 := ⟨[], [], [], rfl, rfl, rfl, rfl, by decide, fun r => by
  constructor
  · intro h
    cases h
  · rintro ⟨i, j, l, c, h1, h2, _, _, h5⟩
    have h1 : ([[[]]] : List (List (List ByteArray)))[i]? = some l := h1
    cases i with
    | zero =>
      have : l = [[]] := by simpa using h1.symm
      subst this
      cases j with
      | zero =>
        have : c = [] := by simpa using h2.symm
        subst this
        cases h5
      | succ j => simp at h2
    | succ i => simp at h1, fun l hl c hc => by
    have hl : l = [[]] := by simpa using hl
    subst hl
    have hc : c = [] := by simpa using hc
    subst hc
    exact ⟨List.Pairwise.nil, fun x hx => (by cases hx), Nat.zero_le _⟩, Nat.le_refl _, fun l hl => by
    have hl : l = [[]] := by simpa using hl
    subst hl
    decide, fun d hd => (by cases hd), ⟨Nat.le_refl _, fun h => absurd rfl h⟩, ⟨Nat.le_refl _, fun h => h.elim (fun h => absurd rfl h) (fun h => absurd rfl h)⟩⟩
theorem getD_last {α : Type} (a : List α) (x d : α) : (a ++ [x]).getD ((a ++ [x]).length - 1) d = x := by
  rw [List.length_append, List.length_singleton, Nat.add_sub_cancel, List.getD_eq_getElem?_getD, List.getElem?_append_right (Nat.le_refl _), Nat.sub_self]
  rfl
theorem set_last {α : Type} (a : List α) (x y : α) : (a ++ [x]).set ((a ++ [x]).length - 1) y = a ++ [y] := by
  rw [List.length_append, List.length_singleton, Nat.add_sub_cancel, List.set_append_right _ _ (Nat.le_refl _), Nat.sub_self]
  rfl
theorem at_app {α : Type} (a : List α) (x y : α) (i : Nat) : (a ++ [x])[i]? = some y ↔ a[i]? = some y ∨ (i = a.length ∧ x = y) := by
  rcases Nat.lt_trichotomy i a.length with h | h | h
  · rw [List.getElem?_append_left h]
    constructor
    · exact Or.inl
    · rintro (g | ⟨g, _⟩)
      · exact g
      · omega
  · subst h
    rw [List.getElem?_append_right (Nat.le_refl _), Nat.sub_self, List.getElem?_eq_none (l := a) (Nat.le_refl _)]
    constructor
    · intro g
      exact Or.inr ⟨rfl, by simpa using g⟩
    · rintro (g | ⟨_, g⟩)
      · cases g
      · rw [g]
        rfl
  · rw [List.getElem?_eq_none (by rw [List.length_append, List.length_singleton]; omega), List.getElem?_eq_none (by omega)]
    constructor
    · intro g
      cases g
    · rintro (g | ⟨g, _⟩)
      · cases g
      · omega
theorem hasB_iff {L : List (List (List ByteArray))} {rows : List S61} (hm : Rows L rows) (i j : Nat) : hasB rows (i : Int) (j : Int) = true ↔ ∃ l c, L[i]? = some l ∧ l[j]? = some c ∧ c ≠ [] := by
  unfold hasB
  rw [List.any_eq_true]
  constructor
  · rintro ⟨r, hr, h⟩
    unfold inB at h
    rw [Bool.and_eq_true, decide_eq_true_eq, decide_eq_true_eq] at h
    obtain ⟨i2, j2, l, c, h1, h2, h3, h4, h5⟩ := (hm r).1 hr
    have e1 : i2 = i := by have := h3.symm.trans h.1; omega
    have e2 : j2 = j := by have := h4.symm.trans h.2; omega
    subst e1 e2
    exact ⟨l, c, h1, h2, List.ne_nil_of_mem h5⟩
  · rintro ⟨l, c, h1, h2, h3⟩
    obtain ⟨x, hx⟩ := List.exists_mem_of_ne_nil c h3
    refine ⟨⟨(i : Int), (j : Int), x⟩, (hm _).2 ⟨i, j, l, c, h1, h2, rfl, rfl, hx⟩, ?_⟩
    unfold inB
    simp
theorem in_iff {L : List (List (List ByteArray))} {rows : List S61} (hm : Rows L rows) {i j : Nat} {l : List (List ByteArray)} {c : List ByteArray} (h1 : L[i]? = some l) (h2 : l[j]? = some c) (x : ByteArray) : (∃ r ∈ rows, inB (i : Int) (j : Int) r = true ∧ r.f2 = x) ↔ x ∈ c := by
  constructor
  · rintro ⟨r, hr, h, rfl⟩
    unfold inB at h
    rw [Bool.and_eq_true, decide_eq_true_eq, decide_eq_true_eq] at h
    obtain ⟨i2, j2, l2, c2, q1, q2, h3, h4, h5⟩ := (hm r).1 hr
    have e1 : i2 = i := by have := h3.symm.trans h.1; omega
    have e2 : j2 = j := by have := h4.symm.trans h.2; omega
    subst e1 e2
    rw [h1] at q1
    cases q1
    rw [h2] at q2
    cases q2
    exact h5
  · intro hx
    refine ⟨⟨(i : Int), (j : Int), x⟩, (hm _).2 ⟨i, j, l, c, h1, h2, rfl, rfl, hx⟩, ?_, rfl⟩
    unfold inB
    simp
open Classical in
theorem choR_iff {L : List (List (List ByteArray))} {rows : List S61} (hm : Rows L rows) {i j : Nat} {l : List (List ByteArray)} {c : List ByteArray} (h1 : L[i]? = some l) (h2 : l[j]? = some c) (items : List ByteArray) : choR items rows (i : Int) (j : Int) rows = true ↔ chB c items = true := by
  unfold choR chB metR
  rw [decide_eq_true_eq, List.all_eq_true]
  have key : ∀ fd : ByteArray, (rows.any fun r => inB (i : Int) (j : Int) r && (decide (fieldV r.f2 = fd) && decide (r.f2 ∈ items))) = true ↔ ∃ y ∈ c, fieldV y = fd ∧ y ∈ items := fun fd => by
    rw [List.any_eq_true]
    constructor
    · rintro ⟨r, hr, h⟩
      rw [Bool.and_eq_true, Bool.and_eq_true, decide_eq_true_eq, decide_eq_true_eq] at h
      exact ⟨r.f2, (in_iff hm h1 h2 r.f2).1 ⟨r, hr, h.1, rfl⟩, h.2⟩
    · rintro ⟨y, hy, h⟩
      obtain ⟨r, hr, h3, h4⟩ := (in_iff hm h1 h2 y).2 hy
      subst h4
      refine ⟨r, hr, ?_⟩
      rw [h3, decide_eq_true h.1, decide_eq_true h.2]
      rfl
  constructor
  · intro h x hx
    obtain ⟨r, hr, h3, h4⟩ := (in_iff hm h1 h2 x).2 hx
    subst h4
    have := h r hr
    rw [h3, Bool.not_true, Bool.false_or] at this
    exact (key _).1 this
  · intro h r hr
    cases hin : inB (i : Int) (j : Int) r
    · rfl
    · rw [Bool.not_true, Bool.false_or]
      exact (key _).2 (h r.f2 ((in_iff hm h1 h2 r.f2).1 ⟨r, hr, hin, rfl⟩))
theorem anyC_iff (rows : List S61) (a : Int) : ∀ (d c : Nat), anyC rows a d c = true ↔ ∃ j : Nat, c ≤ j ∧ j < c + d ∧ hasB rows a (j : Int) = true
  | 0, c => by
    constructor
    · intro h
      cases h
    · rintro ⟨j, h1, h2, _⟩
      omega
  | d + 1, c => by
    rw [anyC, Bool.or_eq_true, anyC_iff rows a d (c + 1)]
    constructor
    · rintro (h | ⟨j, h1, h2, h3⟩)
      · exact ⟨c, Nat.le_refl _, by omega, h⟩
      · exact ⟨j, by omega, by omega, h3⟩
    · rintro ⟨j, h1, h2, h3⟩
      rcases Nat.eq_or_lt_of_le h1 with rfl | h1
      · exact Or.inl h3
      · exact Or.inr ⟨j, h1, by omega, h3⟩
theorem metC_iff (items : List ByteArray) (rows : List S61) (a : Int) : ∀ (d c : Nat), metC items rows a d c = true ↔ ∃ j : Nat, c ≤ j ∧ j < c + d ∧ hasB rows a (j : Int) = true ∧ choR items rows a (j : Int) rows = true
  | 0, c => by
    constructor
    · intro h
      cases h
    · rintro ⟨j, h1, h2, _⟩
      omega
  | d + 1, c => by
    rw [metC, Bool.or_eq_true, Bool.and_eq_true, metC_iff items rows a d (c + 1)]
    constructor
    · rintro (h | ⟨j, h1, h2, h3⟩)
      · exact ⟨c, Nat.le_refl _, by omega, h⟩
      · exact ⟨j, by omega, by omega, h3⟩
    · rintro ⟨j, h1, h2, h3⟩
      rcases Nat.eq_or_lt_of_le h1 with rfl | h1
      · exact Or.inl h3
      · exact Or.inr ⟨j, h1, by omega, h3⟩
theorem isR_iff (items : List ByteArray) (rows : List S61) : ∀ (d a : Nat), isR items rows d a = true ↔ ∀ i : Nat, a ≤ i → i < a + d → anyC rows (i : Int) 17 0 = true → metC items rows (i : Int) 17 0 = true
  | 0, a => ⟨fun _ i h1 h2 => by omega, fun _ => rfl⟩
  | d + 1, a => by
    rw [isR, Bool.and_eq_true, isR_iff items rows d (a + 1)]
    constructor
    · rintro ⟨h, g⟩ i h1 h2 h3
      rcases Nat.eq_or_lt_of_le h1 with rfl | h1
      · rw [h3, Bool.not_true, Bool.false_or] at h
        exact h
      · exact g i h1 (by omega) h3
    · intro h
      refine ⟨?_, fun i h1 h2 => h i (by omega) (by omega)⟩
      cases ha : anyC rows (a : Int) 17 0
      · rfl
      · rw [Bool.not_true, Bool.false_or]
        exact h a (Nat.le_refl _) (by omega) ha
/-- both ask for the same entries -/
theorem is_same {t : TwoS} (h : Inv t) (items : List ByteArray) : isR items t.rows (t.L.length - 1 + 1) 0 = isS items (levF t.L) := by
  obtain ⟨Ls, ls, c0, hd⟩ := h
  have hL : 0 < t.L.length := by
    rw [hd.eq, List.length_append, List.length_singleton]
    omega
  have hm := hd.mem
  apply Bool.eq_iff_iff.2
  rw [isR_iff, isS_spec]
  have left : ∀ (i : Nat) (l : List (List ByteArray)), t.L[i]? = some l → ((anyC t.rows (i : Int) 17 0 = true ↔ ∃ c ∈ l, c ≠ []) ∧ (metC items t.rows (i : Int) 17 0 = true ↔ ∃ c ∈ l, c ≠ [] ∧ chB c items = true)) := by
    intro i l hi
    have hl17 := hd.l17 l (List.mem_of_getElem? hi)
    have hat : ∀ (j : Nat) (c : List ByteArray), l[j]? = some c → j < 17 := fun j c hj => by
      have := (List.getElem?_eq_some_iff.1 hj).1
      omega
    rw [anyC_iff, metC_iff]
    constructor
    · constructor
      · rintro ⟨j, _, _, h3⟩
        obtain ⟨l2, c, h4, h5, h6⟩ := (hasB_iff hm i j).1 h3
        rw [hi] at h4
        cases h4
        exact ⟨c, List.mem_of_getElem? h5, h6⟩
      · rintro ⟨c, hc, hne⟩
        obtain ⟨j, hj⟩ := List.getElem?_of_mem hc
        exact ⟨j, Nat.zero_le _, by have := hat j c hj; omega, (hasB_iff hm i j).2 ⟨l, c, hi, hj, hne⟩⟩
    · constructor
      · rintro ⟨j, _, _, h3, h7⟩
        obtain ⟨l2, c, h4, h5, h6⟩ := (hasB_iff hm i j).1 h3
        rw [hi] at h4
        cases h4
        exact ⟨c, List.mem_of_getElem? h5, h6, (choR_iff hm hi h5 items).1 h7⟩
      · rintro ⟨c, hc, hne, hb⟩
        obtain ⟨j, hj⟩ := List.getElem?_of_mem hc
        exact ⟨j, Nat.zero_le _, by have := hat j c hj; omega, (hasB_iff hm i j).2 ⟨l, c, hi, hj, hne⟩, (choR_iff hm hi hj items).2 hb⟩
  have mem_chF : ∀ (l : List (List ByteArray)) (c : List ByteArray), c ∈ chF l ↔ c ∈ l ∧ c ≠ [] := fun l c => by
    unfold chF
    rw [List.mem_filter, decide_eq_true_eq, List.length_pos_iff]
  constructor
  · intro h l' hl'
    unfold levF at hl'
    obtain ⟨h1, h2⟩ := List.mem_filter.1 hl'
    obtain ⟨l, hl, rfl⟩ := List.mem_map.1 h1
    obtain ⟨i, hi⟩ := List.getElem?_of_mem hl
    have hlt := (List.getElem?_eq_some_iff.1 hi).1
    obtain ⟨c, hc⟩ := List.exists_mem_of_ne_nil (chF l) (List.length_pos_iff.1 (of_decide_eq_true h2))
    obtain ⟨a1, a2⟩ := left i l hi
    obtain ⟨c2, q1, q2, q3⟩ := a2.1 (h i (Nat.zero_le _) (by omega) (a1.2 ⟨c, (mem_chF l c).1 hc⟩))
    exact ⟨c2, (mem_chF l c2).2 ⟨q1, q2⟩, q3⟩
  · intro h i _ hi ha
    have hi2 : i < t.L.length := by omega
    obtain ⟨a1, a2⟩ := left i t.L[i] (List.getElem?_eq_getElem hi2)
    obtain ⟨c, q1, q2⟩ := a1.1 ha
    have hcm : c ∈ chF t.L[i] := (mem_chF _ c).2 ⟨q1, q2⟩
    obtain ⟨c2, p1, p2⟩ := h (chF t.L[i]) (by
      unfold levF
      refine List.mem_filter.2 ⟨List.mem_map.2 ⟨_, List.getElem_mem hi2, rfl⟩, decide_eq_true (List.length_pos_of_mem hcm)⟩)
    obtain ⟨p3, p4⟩ := (mem_chF _ c2).1 p1
    exact a2.2 ⟨c2, p3, p4, p2⟩
/-! ### every act -/
theorem mem_at {L : List (List (List ByteArray))} {Ls : List (List (List ByteArray))} {ls : List (List ByteArray)} {c : List ByteArray} (he : L = Ls ++ [ls ++ [c]]) : L[Ls.length]? = some (ls ++ [c]) ∧ (ls ++ [c])[ls.length]? = some c := by
  subst he
  exact ⟨(at_app _ _ _ _).2 (Or.inr ⟨rfl, rfl⟩), (at_app _ _ _ _).2 (Or.inr ⟨rfl, rfl⟩)⟩
theorem len_last {α : Type} (a : List α) (x : α) : (a ++ [x]).length = a.length + 1 := by simp
theorem or_tells {t : TwoS} {Ls : List (List (List ByteArray))} {ls : List (List ByteArray)} {c : List ByteArray} (h : InvD t Ls ls c) (hm : t.rows.length ≤ 1000000) :
    ∃ L2 c2, expr_Expr_Or.f t.L = some L2 ∧ Ev (fun k => logbookref26_Expr_Or.f k t.rows t.lv t.ch) c2 ∧ Inv ⟨L2, t.n, t.rows, t.lv, c2⟩ := by
  obtain ⟨m1, m2⟩ := mem_at h.eq
  have hrl := h.n16
  have hb : hasB t.rows t.lv t.ch = true ↔ c ≠ [] := by
    rw [h.lv, h.ch, hasB_iff h.mem]
    constructor
    · rintro ⟨l, d, q1, q2, q3⟩
      rw [m1] at q1
      cases q1
      rw [m2] at q2
      cases q2
      exact q3
    · exact fun g => ⟨_, _, m1, m2, g⟩
  have e0 : ¬ t.L.length = 0 := by rw [h.eq, len_last]; omega
  have e1 : t.L.getD (t.L.length - 1) [] = ls ++ [c] := by rw [h.eq, getD_last]
  have e2 : ¬ (ls ++ [c]).length = 0 := by rw [len_last]; omega
  by_cases hc : c = []
  · refine ⟨t.L, t.ch, ?_, ?_, ⟨Ls, ls, c, h⟩⟩
    · unfold expr_Expr_Or.f
      rw [if_neg e0, e1, if_neg e2, getD_last, if_pos (by rw [hc]; rfl)]
    · exact Ev.bind (rhas_tells t.rows hm t.lv t.ch t.lv t.ch) (Ev.neg (fun g => hb.1 g hc) (Ev.now _))
  · have hlen := h.lcnt.2 hc
    refine ⟨Ls ++ [ls ++ [c] ++ [[]]], t.ch + 1, ?_, ?_, Ls, ls ++ [c], [], ?_⟩
    · unfold expr_Expr_Or.f
      rw [if_neg e0, e1, if_neg e2, getD_last, if_neg (fun g => hc (List.length_eq_zero_iff.1 g)), if_pos (by rw [len_last]; omega), h.eq, set_last]
    · refine Ev.bind (rhas_tells t.rows hm t.lv t.ch t.lv t.ch) (Ev.pos (hb.2 hc) (Ev.eq (Ev.now _) ?_))
      rw [h.ch]
      unfold wrap64
      omega
    · have hsub : ∀ l ∈ Ls ++ [ls ++ [c] ++ [[]]], ∀ d ∈ l, (∃ l2 ∈ t.L, d ∈ l2) ∨ d = [] := fun l hl d hd => by
        rcases List.mem_append.1 hl with hl | hl
        · exact Or.inl ⟨l, by rw [h.eq]; exact List.mem_append_left _ hl, hd⟩
        · rw [List.mem_singleton.1 hl] at hd
          rcases List.mem_append.1 hd with hd | hd
          · exact Or.inl ⟨ls ++ [c], by rw [h.eq]; simp, hd⟩
          · exact Or.inr (List.mem_singleton.1 hd)
      refine ⟨rfl, h.lv, ?_, h.n, h.n16, ?_, ?_, Nat.zero_le _, ?_, ?_, ⟨?_, fun g => absurd rfl g⟩, ⟨h.fcnt.1, fun _ => h.fcnt.2 (Or.inr hc)⟩⟩
      · show t.ch + 1 = _
        rw [h.ch, len_last]
        omega
      · intro r
        rw [h.mem r]
        constructor
        · rintro ⟨i, j, l, d, q1, q2, q3⟩
          rw [h.eq, at_app] at q1
          rcases q1 with q1 | ⟨p1, rfl⟩
          · exact ⟨i, j, l, d, (at_app _ _ _ _).2 (Or.inl q1), q2, q3⟩
          · exact ⟨i, j, _, d, (at_app _ _ _ _).2 (Or.inr ⟨p1, rfl⟩), (at_app _ _ _ _).2 (Or.inl q2), q3⟩
        · rintro ⟨i, j, l, d, q1, q2, q3⟩
          have q1 : (Ls ++ [ls ++ [c] ++ [[]]])[i]? = some l := q1
          rw [at_app] at q1
          rcases q1 with q1 | ⟨p1, rfl⟩
          · exact ⟨i, j, l, d, by rw [h.eq]; exact (at_app _ _ _ _).2 (Or.inl q1), q2, q3⟩
          · rcases (at_app _ _ _ _).1 q2 with q2 | ⟨p2, rfl⟩
            · exact ⟨i, j, ls ++ [c], d, by rw [h.eq]; exact (at_app _ _ _ _).2 (Or.inr ⟨p1, rfl⟩), q2, q3⟩
            · cases q3.2.2
      · intro l hl d hd
        rcases hsub l hl d hd with ⟨l2, g1, g2⟩ | rfl
        · exact h.ok l2 g1 d g2
        · exact ⟨List.Pairwise.nil, fun x hx => (by cases hx), Nat.zero_le _⟩
      · intro l hl
        have hl : l ∈ Ls ++ [ls ++ [c] ++ [[]]] := hl
        rcases List.mem_append.1 hl with hl | hl
        · exact h.l17 l (by rw [h.eq]; exact List.mem_append_left _ hl)
        · rw [List.mem_singleton.1 hl, len_last, len_last]
          omega
      · intro d hd
        rcases List.mem_append.1 hd with hd | hd
        · exact h.full d hd
        · rw [List.mem_singleton.1 hd]
          exact hc
      · show (ls ++ [c]).length ≤ t.rows.length
        rw [len_last]
        exact hlen
theorem and_tells {t : TwoS} {Ls : List (List (List ByteArray))} {ls : List (List ByteArray)} {c : List ByteArray} (h : InvD t Ls ls c) (hm : t.rows.length ≤ 1000000) :
    ∃ L2 r, expr_Expr_And.f t.L = some L2 ∧ Ev (fun k => logbookref26_Expr_And.f k t.rows t.lv t.ch) r ∧ Inv ⟨L2, t.n, t.rows, r.1, r.2⟩ := by
  obtain ⟨m1, m2⟩ := mem_at h.eq
  have hrl := h.n16
  obtain ⟨d0, hd0⟩ : ∃ d, (ls ++ [c])[0]? = some d := ⟨_, List.getElem?_eq_getElem (by rw [len_last]; omega)⟩
  have hg0 : (ls ++ [c]).getD 0 [] = d0 := by rw [List.getD_eq_getElem?_getD, hd0]; rfl
  have hb : hasB t.rows t.lv 0 = true ↔ d0 ≠ [] := by
    rw [h.lv]
    have := hasB_iff h.mem Ls.length 0
    rw [show ((0 : Nat) : Int) = 0 from rfl] at this
    rw [this]
    constructor
    · rintro ⟨l, d, q1, q2, q3⟩
      rw [m1] at q1
      cases q1
      rw [hd0] at q2
      cases q2
      exact q3
    · exact fun g => ⟨_, _, m1, hd0, g⟩
  have e0 : ¬ t.L.length = 0 := by rw [h.eq, len_last]; omega
  have e1 : t.L.getD (t.L.length - 1) [] = ls ++ [c] := by rw [h.eq, getD_last]
  have e2 : ¬ (ls ++ [c]).length = 0 := by rw [len_last]; omega
  by_cases hc : d0 = []
  · refine ⟨t.L, (t.lv, t.ch), ?_, ?_, ⟨Ls, ls, c, h⟩⟩
    · unfold expr_Expr_And.f
      rw [if_neg e0, e1, if_neg e2, hg0, if_pos (by rw [hc]; rfl)]
    · exact Ev.bind (rhas_tells t.rows hm t.lv t.ch t.lv 0) (Ev.neg (fun g => hb.1 g hc) (Ev.now _))
  · have hne : ls ≠ [] ∨ c ≠ [] := by
      cases ls with
      | nil =>
        have : c = d0 := by simpa using hd0
        exact Or.inr (by rw [this]; exact hc)
      | cons a b => exact Or.inl (List.cons_ne_nil _ _)
    have hf := h.fcnt.2 hne
    refine ⟨t.L ++ [[[]]], (t.lv + 1, 0), ?_, ?_, t.L, [], [], ?_⟩
    · unfold expr_Expr_And.f
      rw [if_neg e0, e1, if_neg e2, hg0, if_neg (fun g => hc (List.length_eq_zero_iff.1 g)), if_pos (by rw [h.eq, len_last]; omega)]
    · refine Ev.bind (rhas_tells t.rows hm t.lv t.ch t.lv 0) (Ev.pos (hb.2 hc) (Ev.eq (Ev.now _) ?_))
      rw [h.lv]
      have : wrap64 ((Ls.length : Int) + 1) = (Ls.length : Int) + 1 := by unfold wrap64; omega
      rw [this]
    · refine ⟨rfl, ?_, rfl, h.n, h.n16, ?_, ?_, Nat.zero_le _, ?_, fun d hd => (by cases hd), ⟨Nat.zero_le _, fun g => absurd rfl g⟩, ⟨?_, fun g => g.elim (fun g => absurd rfl g) (fun g => absurd rfl g)⟩⟩
      · show t.lv + 1 = _
        rw [h.lv, h.eq, len_last]
        omega
      · intro r
        rw [h.mem r]
        constructor
        · rintro ⟨i, j, l, d, q1, q2, q3⟩
          exact ⟨i, j, l, d, (at_app _ _ _ _).2 (Or.inl q1), q2, q3⟩
        · rintro ⟨i, j, l, d, q1, q2, q3⟩
          have q1 : (t.L ++ [[[]]])[i]? = some l := q1
          rw [at_app] at q1
          rcases q1 with q1 | ⟨p1, rfl⟩
          · exact ⟨i, j, l, d, q1, q2, q3⟩
          · have hd : d ∈ ([[]] : List (List ByteArray)) := List.mem_of_getElem? q2
            rw [List.mem_singleton.1 hd] at q3
            cases q3.2.2
      · intro l hl d hd
        rcases List.mem_append.1 hl with hl | hl
        · exact h.ok l hl d hd
        · rw [List.mem_singleton.1 hl] at hd
          rw [List.mem_singleton.1 hd]
          exact ⟨List.Pairwise.nil, fun x hx => (by cases hx), Nat.zero_le _⟩
      · intro l hl
        rcases List.mem_append.1 hl with hl | hl
        · exact h.l17 l hl
        · rw [List.mem_singleton.1 hl]
          decide
      · show t.L.length ≤ t.rows.length
        rw [h.eq, len_last]
        exact hf
theorem sorted_some (l : List ByteArray) (hl : l.length ≤ 1000000) (hz : ∀ x ∈ l, x.size ≤ 140737488351232) : item_Sorted.f l = some (compB (srtF l)) ∧ (compB (srtF l)).length ≤ l.length ∧ RF (compB (srtF l)) ∧ ∀ x, x ∈ compB (srtF l) ↔ x ∈ l := by
  have hF : ∀ x ∈ l, (item_Field.f x).isSome = true := fun x hx => by
    rw [(fld x (hz x hx)).1]
    rfl
  refine ⟨if_pos ⟨by omega, hF⟩, ?_, prog_rises l, fun x => prog_mem l hF x⟩
  rw [compB_form, List.length_map]
  have h1 := (comp_sub ((srtF l).map (·.data.toList))).length_le
  rw [List.length_map, srtF_len l hF] at h1
  exact h1
theorem match_tells {t : TwoS} {Ls : List (List (List ByteArray))} {ls : List (List ByteArray)} {c : List ByteArray} (h : InvD t Ls ls c) (s : ByteArray) (hs : s.size ≤ 1500) :
    ∃ x y, expr_Expr_Match.f s t.L t.n = some x ∧ Ev (fun k => logbookref26_Expr_Match.f k s t.rows t.lv t.ch) y ∧ x.2.2 = y.2 ∧ Inv ⟨x.1, x.2.1, y.1, t.lv, t.ch⟩ := by
  have hrl := h.n16
  have e0 : ¬ t.L.length = 0 := by rw [h.eq, len_last]; omega
  have e1 : t.L.getD (t.L.length - 1) [] = ls ++ [c] := by rw [h.eq, getD_last]
  have e2 : ¬ (ls ++ [c]).length = 0 := by rw [len_last]; omega
  have hme : Inv ⟨t.L, t.n, t.rows, t.lv, t.ch⟩ := ⟨Ls, ls, c, h⟩
  by_cases h1 : (s.size : Int) > 1024
  · refine ⟨(t.L, t.n, 22), (t.rows, 22), ?_, Ev.pos h1 (Ev.now _), rfl, hme⟩
    unfold expr_Expr_Match.f
    rw [if_neg e0, if_pos h1]
  obtain ⟨v, v1, v2, v3⟩ := split_ok s (by omega)
  have vf : item_Field.f s = some v.1 := by
    unfold item_Field.f
    rw [v1]
    rfl
  by_cases h2 : v.1.size = 0
  · refine ⟨(t.L, t.n, 23), (t.rows, 23), ?_, Ev.neg h1 (Ev.bind v2 (Ev.neg (fun g => v3.1 g h2) (Ev.now _))), rfl, hme⟩
    unfold expr_Expr_Match.f
    rw [if_neg e0, if_neg h1, vf]
    show (if v.1.size = 0 then _ else _) = _
    rw [if_pos h2]
  by_cases h3 : (t.rows.length : Int) ≥ 16
  · refine ⟨(t.L, t.n, 29), (t.rows, 29), ?_, Ev.neg h1 (Ev.bind v2 (Ev.pos (v3.2 h2) (Ev.pos h3 (Ev.now _)))), rfl, hme⟩
    unfold expr_Expr_Match.f
    rw [if_neg e0, if_neg h1, vf]
    show (if v.1.size = 0 then _ else _) = _
    rw [if_neg h2, if_pos (by rw [h.n]; exact h3)]
  obtain ⟨m1, m2⟩ := mem_at h.eq
  have okc := h.ok _ (List.mem_of_getElem? m1) _ (List.mem_of_getElem? m2)
  have hsz : ∀ x ∈ c ++ [s], x.size ≤ 1024 := fun x hx => by
    rcases List.mem_append.1 hx with hx | hx
    · exact okc.2.1 x hx
    · rw [List.mem_singleton.1 hx]
      omega
  have hcl := h.clen
  obtain ⟨s1, s2, s3, s4⟩ := sorted_some (c ++ [s]) (by rw [len_last]; omega) (fun x hx => by have := hsz x hx; omega)
  generalize compB (srtF (c ++ [s])) = c2 at s1 s2 s3 s4
  rw [len_last] at s2
  have hne2 : c2 ≠ [] := List.ne_nil_of_mem ((s4 s).2 (by simp))
  refine ⟨(Ls ++ [ls ++ [c2]], t.n + 1, 0), (t.rows ++ [⟨t.lv, t.ch, s⟩], 0), ?_, Ev.neg h1 (Ev.bind v2 (Ev.pos (v3.2 h2) (Ev.neg h3 (Ev.now _)))), rfl, Ls, ls, c2, ?_⟩
  · unfold expr_Expr_Match.f
    rw [if_neg e0, if_neg h1, vf]
    show (if v.1.size = 0 then _ else _) = _
    rw [if_neg h2, if_neg (by rw [h.n]; exact h3), e1, if_neg e2, getD_last, if_pos (by omega), s1]
    show some (_, _, _) = some _
    rw [set_last, h.eq, set_last, h.n]
    have : wrap64 ((t.rows.length : Int) + 1) = (t.rows.length : Int) + 1 := by unfold wrap64; omega
    rw [this]
  · have hr1 : (t.rows ++ [(⟨t.lv, t.ch, s⟩ : S61)]).length = t.rows.length + 1 := len_last _ _
    refine ⟨rfl, h.lv, h.ch, ?_, ?_, ?_, ?_, ?_, ?_, h.full, ?_, ?_⟩
    · show t.n + 1 = ((t.rows ++ [(⟨t.lv, t.ch, s⟩ : S61)]).length : Int)
      rw [hr1, h.n]
      omega
    · show (t.rows ++ [(⟨t.lv, t.ch, s⟩ : S61)]).length ≤ 16
      rw [hr1]
      omega
    · intro r
      show r ∈ t.rows ++ [(⟨t.lv, t.ch, s⟩ : S61)] ↔ _
      rw [List.mem_append, h.mem r, List.mem_singleton]
      constructor
      · rintro (⟨i, j, l, d, q1, q2, q3, q4, q5⟩ | rfl)
        · rw [h.eq, at_app] at q1
          rcases q1 with q1 | ⟨p1, rfl⟩
          · exact ⟨i, j, l, d, (at_app _ _ _ _).2 (Or.inl q1), q2, q3, q4, q5⟩
          · rcases (at_app _ _ _ _).1 q2 with q2 | ⟨p2, rfl⟩
            · exact ⟨i, j, ls ++ [c2], d, (at_app _ _ _ _).2 (Or.inr ⟨p1, rfl⟩), (at_app _ _ _ _).2 (Or.inl q2), q3, q4, q5⟩
            · exact ⟨i, j, ls ++ [c2], c2, (at_app _ _ _ _).2 (Or.inr ⟨p1, rfl⟩), (at_app _ _ _ _).2 (Or.inr ⟨p2, rfl⟩), q3, q4, (s4 _).2 (List.mem_append_left _ q5)⟩
        · exact ⟨Ls.length, ls.length, ls ++ [c2], c2, (at_app _ _ _ _).2 (Or.inr ⟨rfl, rfl⟩), (at_app _ _ _ _).2 (Or.inr ⟨rfl, rfl⟩), h.lv, h.ch, (s4 _).2 (by simp)⟩
      · rintro ⟨i, j, l, d, q1, q2, q3, q4, q5⟩
        have q1 : (Ls ++ [ls ++ [c2]])[i]? = some l := q1
        rw [at_app] at q1
        rcases q1 with q1 | ⟨p1, rfl⟩
        · exact Or.inl ⟨i, j, l, d, by rw [h.eq]; exact (at_app _ _ _ _).2 (Or.inl q1), q2, q3, q4, q5⟩
        · rcases (at_app _ _ _ _).1 q2 with q2 | ⟨p2, rfl⟩
          · exact Or.inl ⟨i, j, ls ++ [c], d, by rw [h.eq]; exact (at_app _ _ _ _).2 (Or.inr ⟨p1, rfl⟩), (at_app _ _ _ _).2 (Or.inl q2), q3, q4, q5⟩
          · rcases List.mem_append.1 ((s4 _).1 q5) with q5 | q5
            · exact Or.inl ⟨i, j, ls ++ [c], c, by rw [h.eq]; exact (at_app _ _ _ _).2 (Or.inr ⟨p1, rfl⟩), (at_app _ _ _ _).2 (Or.inr ⟨p2, rfl⟩), q3, q4, q5⟩
            · right
              have e5 := List.mem_singleton.1 q5
              cases r with
              | mk a b x =>
                simp only at q3 q4 e5
                rw [h.lv, h.ch, q3, q4, e5, p1, p2]
    · intro l hl d hd
      have hl : l ∈ Ls ++ [ls ++ [c2]] := hl
      rcases List.mem_append.1 hl with hl | hl
      · exact h.ok l (by rw [h.eq]; exact List.mem_append_left _ hl) d hd
      · rw [List.mem_singleton.1 hl] at hd
        rcases List.mem_append.1 hd with hd | hd
        · exact h.ok (ls ++ [c]) (by rw [h.eq]; simp) d (List.mem_append_left _ hd)
        · rw [List.mem_singleton.1 hd]
          exact ⟨s3, fun x hx => hsz x ((s4 x).1 hx), by omega⟩
    · show c2.length ≤ (t.rows ++ [(⟨t.lv, t.ch, s⟩ : S61)]).length
      rw [hr1]
      omega
    · intro l hl
      have hl : l ∈ Ls ++ [ls ++ [c2]] := hl
      rcases List.mem_append.1 hl with hl | hl
      · exact h.l17 l (by rw [h.eq]; exact List.mem_append_left _ hl)
      · have := h.l17 (ls ++ [c]) (by rw [h.eq]; simp)
        rw [List.mem_singleton.1 hl, len_last]
        rw [len_last] at this
        exact this
    · show ls.length ≤ (t.rows ++ [(⟨t.lv, t.ch, s⟩ : S61)]).length ∧ (c2 ≠ [] → ls.length + 1 ≤ (t.rows ++ [(⟨t.lv, t.ch, s⟩ : S61)]).length)
      rw [hr1]
      have := h.lcnt.1
      exact ⟨by omega, fun _ => by omega⟩
    · show Ls.length ≤ (t.rows ++ [(⟨t.lv, t.ch, s⟩ : S61)]).length ∧ (ls ≠ [] ∨ c2 ≠ [] → Ls.length + 1 ≤ (t.rows ++ [(⟨t.lv, t.ch, s⟩ : S61)]).length)
      rw [hr1]
      have := h.fcnt.1
      exact ⟨by omega, fun _ => by omega⟩
theorem does_tells (kind : Int) (s : ByteArray) (hs : s.size ≤ 1500) (t : TwoS) (h : Inv t) : ∃ t2, Ev (fun k => logbooklaw26_does.f k kind s t) (t2, true) ∧ Inv t2 := by
  obtain ⟨Ls, ls, c, hd⟩ := h
  have hm : t.rows.length ≤ 1000000 := by have := hd.n16; omega
  by_cases h1 : kind = 1
  · obtain ⟨L2, c2, q1, q2, q3⟩ := or_tells hd hm
    exact ⟨_, Ev.pos h1 (Ev.bindc q1 (Ev.bind q2 (Ev.now _))), q3⟩
  by_cases h2 : kind = 2
  · obtain ⟨L2, r, q1, q2, q3⟩ := and_tells hd hm
    exact ⟨_, Ev.neg h1 (Ev.pos h2 (Ev.bindc q1 (Ev.bind q2 (Ev.now _)))), q3⟩
  by_cases h3 : kind = 3
  · exact ⟨_, Ev.neg h1 (Ev.neg h2 (Ev.pos h3 (Ev.now _))), inv0⟩
  · obtain ⟨x, y, q1, q2, q3, q4⟩ := match_tells hd s hs
    refine ⟨_, Ev.neg h1 (Ev.neg h2 (Ev.neg h3 (Ev.bindc q1 (Ev.bind q2 (Ev.eq (Ev.now _) ?_))))), q4⟩
    rw [q3]
    simp
/-! ### the law -/
def goodL (c : List ByteArray) : Prop := Rises c ∧ c.length ≤ 64
theorem isAll_tells (t : TwoS) (h : Inv t) : ∀ lists : List (List ByteArray), (∀ c ∈ lists, goodL c) → Ev (fun k => isAll k lists t) (true, t)
  | [], _ => Ev.now _
  | c :: r, hg => by
    obtain ⟨g1, g2⟩ := hg c (by simp)
    obtain ⟨Ls, ls, c0, hd⟩ := id h
    have hrl := hd.n16
    have hLl : t.L.length = Ls.length + 1 := by rw [hd.eq, len_last]
    have hf := hd.fcnt.1
    have hlv : expr_Expr_Levels.f t.L = some (levF t.L) := by
      unfold expr_Expr_Levels.f
      rw [if_pos ⟨by omega, fun l hl => ⟨by have := hd.l17 l hl; omega, fun d hd2 => by have := (hd.ok l hl d hd2).2.2; omega⟩⟩]
    have hok : ∀ l ∈ levF t.L, ∀ d ∈ l, okC d := fun l hl d hd2 => by
      unfold levF at hl
      obtain ⟨l0, q1, rfl⟩ := List.mem_map.1 (List.mem_filter.1 hl).1
      have q2 : d ∈ l0 := (List.mem_filter.1 hd2).1
      obtain ⟨q3, q4, q5⟩ := hd.ok l0 q1 d q2
      exact ⟨q3, by omega, fun x hx => by have := q4 x hx; omega⟩
    have hz : ∀ r ∈ t.rows, r.f2.size ≤ 140737488351232 := fun r hr => by
      obtain ⟨i, j, l, d, q1, q2, _, _, q5⟩ := (hd.mem r).1 hr
      have := (hd.ok l (List.mem_of_getElem? q1) d (List.mem_of_getElem? q2)).2.1 _ q5
      omega
    have hr := ris_tells c t.rows (by omega) hz g2 Ls.length (by omega) t.ch
    rw [← hd.lv] at hr
    have hsame := is_same h c
    rw [show t.L.length - 1 + 1 = Ls.length + 1 by omega] at hsame
    refine Ev.bind (Ev.bindc hlv (isL_tells c g2 g1 (levF t.L) hok)) (Ev.bind hr (Ev.pos hsame.symm ?_))
    exact isAll_tells t h r (fun d hd => hg d (by simp [hd]))
theorem actL_tells (lists : List (List ByteArray)) (hg : ∀ c ∈ lists, goodL c) : ∀ (l : List S35) (t : TwoS), Inv t → Ev (fun k => actL k lists l t) true
  | [], t, _ => Ev.now _
  | a :: r, t, h => by
    by_cases hs : (a.f1.size : Int) > 1500
    · exact Ev.pos hs (Ev.now _)
    obtain ⟨t2, q1, q2⟩ := does_tells a.f0 a.f1 (by omega) t h
    exact Ev.neg hs (Ev.bind q1 (Ev.pos rfl (Ev.bind (isAll_tells t2 q2 lists hg) (Ev.pos rfl (actL_tells lists hg r t2 q2)))))
theorem chkL_tells : ∀ (l acc : List (List ByteArray)), acc.length + l.length ≤ 100 → (∀ c ∈ acc, goodL c) → ∃ o, Ev (fun k => chkL k l acc) o ∧ ∀ lists, o = some lists → ∀ c ∈ lists, goodL c
  | [], acc, _, hg => ⟨some acc, Ev.now _, fun lists h => by cases h; exact hg⟩
  | c :: t, acc, hl, hg => by
    rw [List.length_cons] at hl
    by_cases h20 : (c.length : Int) > 20
    · exact ⟨none, Ev.pos h20 (Ev.now _), fun lists h => by cases h⟩
    by_cases h0 : (chk c).2 = 0
    · obtain ⟨q1, q2, _⟩ := chk_ok c h0
      obtain ⟨o, o1, o2⟩ := chkL_tells t (acc ++ [(chk c).1]) (by rw [len_last]; omega) (fun d hd => by
        rcases List.mem_append.1 hd with hd | hd
        · exact hg d hd
        · rw [List.mem_singleton.1 hd]
          exact ⟨q1, q2⟩)
      exact ⟨o, Ev.neg h20 (Ev.bind (refc_all c) (Ev.pos h0 (Ev.pos (by omega) o1))), o2⟩
    · obtain ⟨o, o1, o2⟩ := chkL_tells t acc (by omega) hg
      exact ⟨o, Ev.neg h20 (Ev.bind (refc_all c) (Ev.neg h0 o1)), o2⟩
theorem law (l : List S35) (items : List (List ByteArray)) : ∃ k, logbooklaw26_ExprAsks.f k l items = some true := by
  refine Ev.at ?_
  obtain ⟨o, o1, o2⟩ := chkL_tells (items.take 6) [] (by rw [List.length_take]; simp only [List.length_nil]; omega) (fun c hc => by cases hc)
  refine Ev.bind awake_tells (Ev.pos rfl (Ev.bind o1 ?_))
  cases o with
  | none => exact Ev.now _
  | some lists => exact actL_tells lists (o2 lists rfl) (l.take 40) T00 inv0
end IE
end Go.Proofs.Ytajlgbonapfckaa.Pure
namespace Go.Proofs.Ytajlgbonapfckaa.PureExprAsks
set_option linter.unusedVariables false
open Go.Proofs.Ytajlgbonapfckaa.PExprAsks
theorem ExprAsks (y0 : List S35) (y1 : List (List ByteArray)) (w0 : y0.length ≤ maxLen ∧ y0.length * 24 ≤ 140737488351232 ∧ ∀ x ∈ y0, ((Lit.int .i64 x.f0).wf = true) ∧ (x.f1.size ≤ 140737488351232)) (w1 : y1.length ≤ maxLen ∧ y1.length * 24 ≤ 140737488351232 ∧ ∀ x ∈ y1, (x.length ≤ maxLen ∧ x.length * 16 ≤ 140737488351232 ∧ ∀ x1 ∈ x, x1.size ≤ 140737488351232)) : ∃ k, logbooklaw26_ExprAsks.f k y0 y1 = some true := Pure.IE.law y0 y1
end Go.Proofs.Ytajlgbonapfckaa.PureExprAsks
