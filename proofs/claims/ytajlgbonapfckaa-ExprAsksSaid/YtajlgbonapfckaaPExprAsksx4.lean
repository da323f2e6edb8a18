-- LAID BY gprint.py: a scratch copy of the print, with functions that this session proved by hand among the printed ones
import Derived.Test.YtajlgbonapfckaaPExprAsksx0
import Derived.Test.YtajlgbonapfckaaPExprAsksx1
import Derived.Test.YtajlgbonapfckaaPExprAsksx2
import Derived.Test.YtajlgbonapfckaaPExprAsksx3
namespace Go.Proofs.Ytajlgbonapfckaa.PExprAsks
open Go.RowKit Go.Proofs.YtajlgbonapfckaaW.PrintWords Go.Proofs.YtajlgbonapfckaaW.PrintLast Go.Proofs.Ytajlgbonapfckaa.Conv Go.Proofs.YtajlgbonapfckaaW.PrintMore
attribute [local go_sem] max2_int min2_int max_two min_two max_three min_three max_four min_four gtr_less   -- for this text's walks alone
set_option linter.unusedVariables false
set_option linter.unusedSimpArgs false

-- GIVEN rounds=0 making=1 needs=(*logbook/expr.Expr).Match
/-! ### (*expr.Expr).And, Or, Flush: by hand -/
theorem ExS.first {w : World} {B g : Nat} {ok : Nat → Prop} {L : List (List (List ByteArray))} {n : Int} (h : ExS w B g ok L n) {l : List (List ByteArray)} (hL : 0 < L.length) (hl : L.getD (L.length - 1) [] = l) (j : Nat) (hj : j < l.length) :
    ∃ gv cv gl cl A c, w.heap[g]? = some (.cells #[.slice (some ⟨gv, 0, none⟩) L.length cv, .int .i64 n] 49 (0, 0)) ∧ w.cell? ⟨gv, L.length - 1, none⟩ = some (.slice (some ⟨gl, 0, none⟩) l.length cl) ∧ w.cell? ⟨gl, j, none⟩ = some (.slice A (l.getD j []).length c) ∧ l.length ≤ maxLen ∧
      Kd.S dLv 23 w B ok (.slice (some ⟨gv, 0, none⟩) L.length cv) L ∧ w.frozen? ⟨gv, L.length - 1, none⟩ = false := by
  obtain ⟨v, hv, ho, hg⟩ := h
  obtain ⟨gv, cv, rfl, b1, b2, t1⟩ := Kd.S_form ho hL
  obtain ⟨okl, cL, e1, m1, c1, f1, o1, h1⟩ := Kd.S_elem ho [] ((L.length - 1 : Nat) : Int) (by omega) (by omega)
  rw [Int.toNat_natCast, hl] at m1
  obtain ⟨vl, rfl, s1⟩ := m1
  obtain ⟨gl, cl, rfl, b3, b4, t2⟩ := Kd.S_form s1 (by omega)
  obtain ⟨okc, cC, e2, m2, c2, f2, o2, h2⟩ := Kd.S_elem s1 [] (j : Int) (by omega) (by omega)
  rw [Int.toNat_natCast] at m2
  obtain ⟨vc, rfl, r1⟩ := m2
  obtain ⟨A, c, rfl⟩ := Kd.R_slice r1
  have z1 := c1 0 _ rfl
  have z2 := c2 0 _ rfl
  have y1 := f1 0
  rw [Int.toNat_natCast] at z1 z2 y1
  have u1 : (L.length - 1) * dLv.sz + 0 = L.length - 1 := Nat.mul_one _
  have u2 : j * dCh.sz + 0 = j := Nat.mul_one _
  rw [u1] at z1 y1
  rw [u2] at z2
  exact ⟨gv, cv, gl, cl, A, c, hv, z1, z2, S_max s1, ho, y1⟩
theorem XKeep.row {α : Type} {d : Kd α} {e B g : Nat} {ok : Nat → Prop} {w w1 : World} {v : Value} {xs : List α} (ho : Kd.S d e w B ok v xs) (he : e = 9 ∨ e = 31 ∨ e = 23) (hg : w.grownBy w1 v.ownBlock) : XKeep (fun k => ok k ∧ B ≤ k) g w w1 :=
  XKeep.grown hg (fun k hk _ => ⟨⟨(Kd.S_R ho).1 k hk, Kd.S_base ho k hk⟩, by
    obtain ⟨cs, hcs⟩ := Kd.S_typed ho k hk
    exact ⟨cs, _, hcs, he⟩⟩)
theorem lvInfo : (Try.prog.info? 23).map (fun i => (i.zero, i.size, i.bytes)) = some (some (.slice none 0 0), 1, 24) := by kernel_rfl
theorem chInfo : (Try.prog.info? 31).map (fun i => (i.zero, i.size, i.bytes)) = some (some (.slice none 0 0), 1, 24) := by kernel_rfl
/-- a new level, or choice, that is still of no block: its one block is the next one -/
theorem one_lv {w : World} {B : Nat} (hB : B ≤ w.heap.size) : dLv.M (w.alloc (.cells #[.slice none 0 0] 31)) B (fun k => k = w.heap.size) [[]] [.slice (some ⟨w.heap.size, 0, none⟩) 1 1] :=
  ⟨_, rfl, Kd.S_lit1 dCh (e := 31) (ok := fun k => k = w.heap.size) (okp := fun _ => False) ⟨_, rfl, Kd.R_nil _ _ _ _ _⟩ (fun _ h => h.elim) rfl hB⟩
def expr_Expr_And.f (L : List (List (List ByteArray))) : Option (List (List (List ByteArray))) :=
  if L.length = 0 then some L else if (L.getD (L.length - 1) []).length = 0 then none else if ((L.getD (L.length - 1) []).getD 0 []).length = 0 then some L else if (L.length + 1) * 24 ≤ 140737488355328 then some (L ++ [[[]]]) else none
set_option maxHeartbeats 3200000 in
theorem expr_Expr_And.calls (L : List (List (List ByteArray))) (n : Int) (B g : Nat) (ok : Nat → Prop) (L2 : List (List (List ByteArray))) (w : World) (hx : ExS w B g ok L n) (hfr : ∀ k, w.heap.size ≤ k → ok k) (h : expr_Expr_And.f L = some L2) :
    Calls Try.prog 14 #[.pointer (some ⟨g, 0, none⟩)] w fun e w' => e = .returned (.tuple #[]) ∧ ExS w' B g ok L2 n ∧ XKeep (fun k => ok k ∧ B ≤ k) g w w' := by
  unfold expr_Expr_And.f at h
  obtain ⟨v, hv, ho, hg⟩ := id hx
  obtain ⟨A, cv, rfl⟩ := Kd.S_slice ho
  have hm := S_max ho
  have HX := Lib.hid hx
  have HV := Lib.hid hv
  have k0 := blk_cell hv 0
  have k1 := blk_cell hv 1
  simp at k0 k1
  by_cases h0 : L.length = 0
  · rw [if_pos h0] at h
    cases h
    rw [h0] at k0
    clear hx hv ho hg hm
    go_enter Try.func14, Try.ntmps14
    go_wp2
    refine bodyPost_ret (results_none rfl _ _ _) rfl ?_
    exact ⟨rfl, HX.out, XKeep.refl _ _ _⟩
  rw [if_neg h0] at h
  obtain ⟨i, hi⟩ : ∃ i, L.length = i + 1 := ⟨L.length - 1, by omega⟩
  have e0 : ¬ ((L.length : Int) = 0) := by omega
  generalize hl : L.getD (L.length - 1) [] = l at h
  by_cases h4 : l.length = 0
  · rw [if_pos h4] at h
    cases h
  rw [if_neg h4] at h
  obtain ⟨j, hj⟩ : ∃ j, l.length = j + 1 := ⟨l.length - 1, by omega⟩
  clear hv ho k0 k1
  obtain ⟨gv, cv, gl, cl, Ac, cc, hv, q2, q3, hmj, ho, hfz⟩ := hx.first (by omega) hl 0 (by omega)
  have q0 := blk_cell hv 0
  have q1 := blk_cell hv 1
  generalize hc : l.getD 0 [] = c at h q3
  have hmi : i ≤ 9223372036854775806 := by
    unfold maxLen at hm
    omega
  unfold maxLen at hmj
  rw [hi] at q0 q2
  rw [hj] at q2 hmj
  simp at q0 q1 q2 q3
  have HI := Lib.hid hi
  have HGB := Lib.hid hg
  have HFR := Lib.hid hfr
  have HVV := Lib.hid hv
  have HO := Lib.hid ho
  by_cases h5 : c.length = 0
  · rw [if_pos h5] at h
    cases h
    rw [h5] at q3
    clear hx hv ho hg hm hl hc h0 h4
    go_enter Try.func14, Try.ntmps14
    go_wp2
    repeat (go_quiet (fail); try go_wp2)
    refine Go.Great.bodyPost_end0 rfl rfl ?_
    exact ⟨rfl, HX.out.below (pw_below_drewN (Below.refl _ _) _), XKeep.of_below (pw_below_drewN (Below.refl _ _) _)⟩
  rw [if_neg h5] at h
  by_cases h6 : (L.length + 1) * 24 ≤ 140737488355328
  case neg =>
    rw [if_neg h6] at h
    cases h
  rw [if_pos h6] at h
  cases h
  have H6 := Lib.hid h6
  have h7 : 0 < (c.length : Int) := by omega
  clear hx hv ho hg hm hl hc h0 h4 h6
  go_enter Try.func14, Try.ntmps14
  have HOI := HO.out
  rw [hi] at HOI
  have HOJ := Lib.hid HOI
  clear HOI
  go_wp2
  repeat (go_quiet (fail); try (go_wp2_with (first
    | (at_builtin; have za := (one_lv (w := w.drewN nq) (Nat.le_trans HGB.out (Nat.le_of_lt (blk_lt HVV.out)))); have zb : ∀ k, k = w.heap.size → ok k ∧ some k ≠ (Value.slice (some ⟨gv, 0, none⟩) (i + 1) cv).ownBlock := (fun k hk => ⟨HFR.out k (by omega), fun he => by have := Kd.S_lt HOJ.out k he.symm; omega⟩); have zc : ∀ k, ((w.drewN nq).alloc (.cells #[.slice none 0 0] 31)).heap.size ≤ k → ok k := (fun k hk => HFR.out k (by rw [World.size_alloc] at hk; exact Nat.le_of_succ_le hk)); have zd : Kd.S dLv 23 ((w.drewN nq).alloc (.cells #[.slice none 0 0] 31)) B (fun k => ok k ∧ ¬ k = w.heap.size) (.slice (some ⟨gv, 0, none⟩) (i + 1) cv) L := (Kd.S_mono (Kd.S_alloc (Kd.S_drewN (Kd.S_bound HOJ.out) _) _) (fun k hk => ⟨hk.1, by have := hk.2.2.1; omega⟩)); have ze : B ≤ ((w.drewN nq).alloc (.cells #[.slice none 0 0] 31)).heap.size := (by rw [World.size_alloc]; exact Nat.le_succ_of_le (Nat.le_trans HGB.out (Nat.le_of_lt (blk_lt HVV.out)))); refine Kd.S_append dLv (w0 := _) B rfl (.tmp 34) (.tmp 36) 39 23 (.slice none 0 0) 24 rfl Try.underlying39 lvInfo rfl (by decide) (by omega) (.slice (some ⟨gv, 0, none⟩) (i + 1) cv) L [[]] [.slice (some ⟨w.heap.size, 0, none⟩) 1 1] ok (fun k => k = w.heap.size) rfl (by show Value.slice _ _ _ = _; rw [World.size_alloc]; rfl) za zb zc zd (Below.refl _ _) ze H6.out ?_; intro v1 w1 hv1 hb1 hg1 _; obtain ⟨A1, c1, rfl⟩ := Kd.S_slice hv1; have hv0 := blk_alloc (blk_drewN HVV.out nq) (.cells #[.slice none 0 0] 31); have ho0 := Kd.S_alloc (Kd.S_drewN HOJ.out nq) (.cells #[.slice none 0 0] 31); have hvv := blk_grown hv0 hg1 (Kd.S_ne ho0 hv0 (by decide)); have HVW := Lib.hid hvv; have k2 := blk_cell hvv 0; have f2 := blk_frozen hvv 0; simp at k2; have hlen_ : (L ++ [[[]]] : List (List (List ByteArray))).length = i + 1 + 1 := (by simp [HI.out]); rw [hlen_] at hv1; have HR1 := Lib.hid hv1; clear hlen_; have HX1 := Lib.hid ((XKeep.of_below (ok := fun k => ok k ∧ B ≤ k) (g := g) (below_alloc (pw_below_drewN (Below.refl _ w) nq) _)).trans (XKeep.row (g := g) ho0 (Or.inr (Or.inr rfl)) hg1)); clear hv1 hb1 hg1 hvv hv0 ho0 za zb zc zd ze))))
  refine Go.Great.bodyPost_end0 rfl rfl ?_
  exact ⟨rfl, ⟨_, blk_put HVW.out 0 _ rfl, Kd.S_set HR1.out HVW.out (by decide) 0 _, HGB.out⟩, HX1.out.trans XKeep.own⟩
/-! Or -/
theorem drew_grown {w w1 : World} {row : Option Nat} (h : w.drew.grownBy w1 row) : w.grownBy w1 row := ⟨h.os, h.tape, h.output, h.size, h.block⟩
theorem ExS.level {w : World} {B g : Nat} {ok : Nat → Prop} {L : List (List (List ByteArray))} {n : Int} (h : ExS w B g ok L n) {l : List (List ByteArray)} (hL : 0 < L.length) (hl : L.getD (L.length - 1) [] = l) (hl0 : 0 < l.length) :
    ∃ gv cv gl cl A c okl, w.heap[g]? = some (.cells #[.slice (some ⟨gv, 0, none⟩) L.length cv, .int .i64 n] 49 (0, 0)) ∧ w.cell? ⟨gv, L.length - 1, none⟩ = some (.slice (some ⟨gl, 0, none⟩) l.length cl) ∧ w.frozen? ⟨gv, L.length - 1, none⟩ = false ∧ w.cell? ⟨gl, l.length - 1, none⟩ = some (.slice A (l.getD (l.length - 1) []).length c) ∧ l.length ≤ maxLen ∧
      Kd.H dLv 23 w B ok (.slice (some ⟨gv, 0, none⟩) L.length cv) L ((L.length - 1 : Nat) : Int) okl [.slice (some ⟨gl, 0, none⟩) l.length cl] ∧ Kd.S dCh 31 w B okl (.slice (some ⟨gl, 0, none⟩) l.length cl) l ∧ (∃ cells, w.heap[gv]? = some (.cells cells 23 (0, 0))) := by
  obtain ⟨v, hv, ho, hg⟩ := h
  obtain ⟨gv, cv, rfl, b1, b2, t1⟩ := Kd.S_form ho hL
  obtain ⟨okl, cL, e1, m1, c1, f1, o1, h1⟩ := Kd.S_elem ho [] ((L.length - 1 : Nat) : Int) (by omega) (by omega)
  rw [Int.toNat_natCast, hl] at m1
  obtain ⟨vl, rfl, s1⟩ := m1
  obtain ⟨gl, cl, rfl, b3, b4, t2⟩ := Kd.S_form s1 (by omega)
  obtain ⟨okc, cC, e2, m2, c2, f2, o2, h2⟩ := Kd.S_elem s1 [] ((l.length - 1 : Nat) : Int) (by omega) (by omega)
  rw [Int.toNat_natCast] at m2
  obtain ⟨vc, rfl, r1⟩ := m2
  obtain ⟨A, c, rfl⟩ := Kd.R_slice r1
  have z1 := c1 0 _ rfl
  have z2 := c2 0 _ rfl
  have y1 := f1 0
  rw [Int.toNat_natCast] at z1 z2 y1
  have u1 : (L.length - 1) * dLv.sz + 0 = L.length - 1 := Nat.mul_one _
  have u2 : (l.length - 1) * dCh.sz + 0 = l.length - 1 := Nat.mul_one _
  rw [u1] at z1 y1
  rw [u2] at z2
  exact ⟨gv, cv, gl, cl, A, c, okl, hv, z1, y1, z2, S_max s1, h1, s1, t1⟩
def expr_Expr_Or.f (L : List (List (List ByteArray))) : Option (List (List (List ByteArray))) :=
  if L.length = 0 then some L else if (L.getD (L.length - 1) []).length = 0 then none else if ((L.getD (L.length - 1) []).getD ((L.getD (L.length - 1) []).length - 1) []).length = 0 then some L else if ((L.getD (L.length - 1) []).length + 1) * 24 ≤ 140737488355328 then some (L.set (L.length - 1) (L.getD (L.length - 1) [] ++ [[]])) else none
/-- the last level has got another choice -/
theorem ExS.longer {w w1 : World} {B g gv cv gl cl : Nat} {ok okl : Nat → Prop} {L : List (List (List ByteArray))} {n : Int} {l : List (List ByteArray)} {v1 : Value}
    (hv : w.heap[g]? = some (.cells #[.slice (some ⟨gv, 0, none⟩) L.length cv, .int .i64 n] 49 (0, 0))) (hB : B ≤ g) (hL : 0 < L.length)
    (hH : Kd.H dLv 23 w B ok (.slice (some ⟨gv, 0, none⟩) L.length cv) L ((L.length - 1 : Nat) : Int) okl [.slice (some ⟨gl, 0, none⟩) l.length cl])
    (hS : Kd.S dCh 31 w B okl (.slice (some ⟨gl, 0, none⟩) l.length cl) l)
    (tyv : ∃ cells, w.heap[gv]? = some (.cells cells 23 (0, 0))) (hfr : ∀ k, w.heap.size ≤ k → ok k)
    (hg : w.grownBy w1 (some gl)) {l2 : List (List ByteArray)} (h1 : Kd.S dCh 31 w1 B (fun k => okl k ∨ w.heap.size ≤ k) v1 l2) :
    ExS (w1.setCell ⟨gv, L.length - 1, none⟩ v1) B g ok (L.set (L.length - 1) l2) n ∧ XKeep (fun k => ok k ∧ B ≤ k) g w (w1.setCell ⟨gv, L.length - 1, none⟩ v1) := by
  have okgl : okl gl := (Kd.S_R hS).1 gl (by simp [Value.ownBlock])
  have hne : ∀ {k t cs}, w.heap[k]? = some (.cells cs t (0, 0)) → 31 ≠ t → some k ≠ some gl := fun hk ht => by
    have := Kd.S_ne hS hk ht
    simpa [Value.ownBlock] using this
  obtain ⟨cs, tv⟩ := tyv
  have tv1 := blk_grown tv hg (hne tv (by decide))
  have b1 := blk_grown hv hg (hne hv (by decide))
  have q1 := Kd.H_widen hH
  have q2 := Kd.H_grown q1 hg (fun k hk => by
    injection hk with hk
    subst hk
    exact Or.inl okgl)
  have hone : v1.oneCell' = true := (Kd.R_val (Kd.S_R h1)).2
  obtain ⟨q3, q4⟩ := Kd.H_seg q2 (by omega) (by omega) (seg := [v1]) (j := 0) (by show 0 + 1 ≤ 1; omega) (fun q hq => by
    rw [List.mem_singleton.1 hq]
    exact hone)
  have u2 : (((L.length - 1 : Nat) : Int).toNat) * dLv.sz + 0 = L.length - 1 := by rw [Int.toNat_natCast]; exact Nat.mul_one _
  rw [u2] at q3 q4
  have e5 : w1.setCells gv (L.length - 1) [v1] = w1.setCell ⟨gv, L.length - 1, none⟩ v1 := rfl
  rw [e5] at q3 q4
  have h2 : Kd.S dCh 31 (w1.setCell ⟨gv, L.length - 1, none⟩ v1) B (fun k => okl k ∨ w.heap.size ≤ k) v1 l2 := Kd.S_set h1 tv1 (by decide) _ _
  have q5 := Kd.H_back q3 (x' := l2) (okp := fun k => okl k ∨ ok k ∧ w.heap.size ≤ k) ⟨v1, rfl, Kd.S_mono h2 (fun k hk => hk.imp id (fun h => ⟨hfr k h, h⟩))⟩ (fun k hk => hk)
  rw [Int.toNat_natCast] at q5
  have hgv : gv ≠ g := fun he => by
    subst he
    rw [tv] at hv
    injection hv with hv
    injection hv with _ hv
    exact absurd hv (by decide)
  have okgv : ok gv ∧ B ≤ gv := by
    obtain ⟨_, f, hR⟩ := hH
    exact ⟨(hR.1 gv (by simp [Value.ownBlock])).1, Kd.R_base hR gv (by simp [Value.ownBlock])⟩
  refine ⟨⟨_, (Below.heap_setCell w1 ⟨gv, L.length - 1, none⟩ v1 g hgv.symm).trans b1, q5, hB⟩, ?_⟩
  have a1 : XKeep (fun k => ok k ∧ B ≤ k) g w w1 := XKeep.grown hg (fun k hk _ => by
    injection hk with hk
    subst hk
    obtain ⟨cs, hcs⟩ := Kd.S_typed hS _ rfl
    exact ⟨⟨hH.1 _ okgl, Kd.S_base hS _ rfl⟩, cs, _, hcs, Or.inr (Or.inl rfl)⟩)
  refine a1.trans ⟨rfl, rfl, rfl, by simp [World.setCell], fun i _ _ hx => Below.heap_setCell w1 ⟨gv, L.length - 1, none⟩ v1 i (fun he => ?_)⟩
  have he : i = gv := he
  subst he
  rcases hx with hx | ⟨cs', t', h4, h5, h6, h7⟩
  · exact hx okgv
  · rw [tv1] at h4
    injection h4 with h4
    injection h4 with _ h4
    exact h7 h4.symm
set_option maxHeartbeats 3200000 in
theorem expr_Expr_Or.calls (L : List (List (List ByteArray))) (n : Int) (B g : Nat) (ok : Nat → Prop) (L2 : List (List (List ByteArray))) (w : World) (hx : ExS w B g ok L n) (hfr : ∀ k, w.heap.size ≤ k → ok k) (h : expr_Expr_Or.f L = some L2) :
    Calls Try.prog 15 #[.pointer (some ⟨g, 0, none⟩)] w fun e w' => e = .returned (.tuple #[]) ∧ ExS w' B g ok L2 n ∧ XKeep (fun k => ok k ∧ B ≤ k) g w w' := by
  unfold expr_Expr_Or.f at h
  obtain ⟨v, hv, ho, hg⟩ := id hx
  obtain ⟨A, cv, rfl⟩ := Kd.S_slice ho
  have hm := S_max ho
  have HX := Lib.hid hx
  have HV := Lib.hid hv
  have k0 := blk_cell hv 0
  have k1 := blk_cell hv 1
  simp at k0 k1
  by_cases h0 : L.length = 0
  · rw [if_pos h0] at h
    cases h
    rw [h0] at k0
    clear hx hv ho hg hm
    go_enter Try.func15, Try.ntmps15
    go_wp2
    refine bodyPost_ret (results_none rfl _ _ _) rfl ?_
    exact ⟨rfl, HX.out, XKeep.refl _ _ _⟩
  rw [if_neg h0] at h
  obtain ⟨i, hi⟩ : ∃ i, L.length = i + 1 := ⟨L.length - 1, by omega⟩
  have e0 : ¬ ((L.length : Int) = 0) := by omega
  generalize hl : L.getD (L.length - 1) [] = l at h
  by_cases h4 : l.length = 0
  · rw [if_pos h4] at h
    cases h
  rw [if_neg h4] at h
  obtain ⟨j, hj⟩ : ∃ j, l.length = j + 1 := ⟨l.length - 1, by omega⟩
  clear hv ho k0 k1
  generalize hc : l.getD (l.length - 1) [] = c at h
  obtain ⟨gv, cv, gl, cl, Ac, cc, okl, hv, q2, hfz, q3, hmj, hH, hS, tyv⟩ := hx.level (by omega) hl (by omega)
  rw [hc] at q3
  have q0 := blk_cell hv 0
  have q1 := blk_cell hv 1
  have hmi : i ≤ 9223372036854775806 := by
    unfold maxLen at hm
    omega
  unfold maxLen at hmj
  rw [hi] at q0 q2 hfz
  rw [hj] at q2 q3 hmj
  simp at q0 q1 q2 q3 hfz
  have HI := Lib.hid hi
  have HJ := Lib.hid hj
  have HGB := Lib.hid hg
  have HFR := Lib.hid hfr
  have HVV := Lib.hid hv
  have HH := Lib.hid hH
  have HSS := Lib.hid hS
  have TYV := Lib.hid tyv
  rw [hj] at hS
  have HSJ := Lib.hid hS
  by_cases h5 : c.length = 0
  · rw [if_pos h5] at h
    cases h
    rw [h5] at q3
    clear hx hg hm hl hc h0 h4 hv hH hS tyv
    go_enter Try.func15, Try.ntmps15
    go_wp2
    refine Go.Great.bodyPost_end0 rfl rfl ?_
    exact ⟨rfl, HX.out, XKeep.refl _ _ _⟩
  rw [if_neg h5] at h
  by_cases h6 : (l.length + 1) * 24 ≤ 140737488355328
  case neg =>
    rw [if_neg h6] at h
    cases h
  rw [if_pos h6] at h
  cases h
  have H6 := Lib.hid h6
  have h7 : 0 < (c.length : Int) := by omega
  clear hx hg hm hl hc h0 h4 h6 hv hH hS tyv
  go_enter Try.func15, Try.ntmps15
  go_wp2
  have hgv : gv ≠ g := fun he => by
    obtain ⟨cs, hcs⟩ := TYV.out
    have hv := HVV.out
    rw [← he, hcs] at hv
    injection hv with hv
    injection hv with _ hv
    exact absurd hv (by decide)
  have hgv2 := Ne.symm hgv
  have hgl : some g ≠ some gl := fun he => Kd.S_ne HSJ.out HVV.out (by decide) (by rw [he]; simp [Value.ownBlock])
  have hglv : some gv ≠ some gl := fun he => by
    obtain ⟨cs, hcs⟩ := TYV.out
    exact Kd.S_ne HSJ.out hcs (by decide) (by rw [he]; simp [Value.ownBlock])
  have hz1 : (0 : Int) ≤ (i : Int) := Int.natCast_nonneg _
  have hz2 : (i : Int) < (i : Int) + 1 := by omega
  go_region_held3 (fun w' => w'.cell? ⟨g, 0, none⟩ = some (.slice (some ⟨gv, 0, none⟩) (i + 1) cv))
    (first | assumption | go_keep)
    ((rw [show (w.alloc (.cells #[.slice none 0 0] 31)).drew = (w.drew).alloc (.cells #[.slice none 0 0] 31) from rfl]; refine Kd.S_append_step dCh (w0 := w) B (by rfl) (.tmp 40) (.tmp 41) 23 31 (.slice none 0 0) 24 (by rfl) Try.underlying23 chInfo rfl (by decide) (by omega) (.slice (some ⟨gl, 0, none⟩) (j + 1) cl) l [] [.slice none 0 0] (fun k => okl k ∨ w.heap.size ≤ k) (fun _ => False) (by rfl) (by rfl) ⟨_, rfl, Kd.R_nil _ _ _ _ _⟩ (fun _ hk => hk.elim) (fun k hk => Or.inr hk) (Kd.S_mono (ok := okl) (by (with_reducible repeat (first | apply Kd.S_alloc | apply Kd.S_drewN | apply Kd.S_drew)); exact HSJ.out) (fun _ hk => ⟨Or.inl hk, fun h_ => h_⟩)) (by repeat (first | exact Below.refl _ _ | apply pw_below_drewN | apply below_drew1)) (Nat.le_trans HGB.out (Nat.le_of_lt (blk_lt HVV.out))) H6.out ?_; intro v1 w1 hv1 hb1 hg1 hat1; obtain ⟨A1, c1, rfl⟩ := Kd.S_slice hv1; have hgw := drew_grown hg1; have HGW := Lib.hid hgw; have k2 := World.grownBy.cell hgw q0 hgl; have k3 := World.grownBy.cell hgw q2 hglv; have f3 := (World.frozen?_of_block (a := ⟨gv, i, none⟩) (hgw.block gv (World.block_lt_of_cell? _ _ q2) hglv)).trans hfz; have HR1 := Lib.hid hv1; clear hv1 hb1 hg1 hat1 hgw))
  refine Go.Great.bodyPost_end0 rfl rfl ?_
  have el : (l ++ [[]] : List (List ByteArray)).length = j + 1 + 1 := by simp [HJ.out]
  have hr := HR1.out
  rw [el] at hr
  have ei : i = L.length - 1 := by have := HI.out; omega
  rw [ei]
  have hfin := ExS.longer HVV.out HGB.out (by have := HI.out; omega) HH.out HSS.out TYV.out HFR.out HGW.out hr
  exact ⟨rfl, hfin.1, hfin.2⟩
/-! Flush -/
set_option maxHeartbeats 1600000 in
theorem expr_Expr_Flush.nil_ (w : World) : Calls Try.prog 19 #[.pointer none] w fun e w' => e = .returned (.tuple #[]) ∧ w' = w := by
  go_enter Try.func19, Try.ntmps19
  go_wp2
  refine Go.Great.bodyPost_end0 rfl rfl ?_
  exact ⟨rfl, rfl⟩
set_option maxHeartbeats 1600000 in
theorem expr_Expr_And.nil_ (w : World) : Calls Try.prog 14 #[.pointer none] w fun e w' => e = .returned (.tuple #[]) ∧ w' = w := by
  go_enter Try.func14, Try.ntmps14
  go_wp2
  refine bodyPost_ret (results_none rfl _ _ _) rfl ?_
  exact ⟨rfl, rfl⟩
set_option maxHeartbeats 1600000 in
theorem expr_Expr_Or.nil_ (w : World) : Calls Try.prog 15 #[.pointer none] w fun e w' => e = .returned (.tuple #[]) ∧ w' = w := by
  go_enter Try.func15, Try.ntmps15
  go_wp2
  refine bodyPost_ret (results_none rfl _ _ _) rfl ?_
  exact ⟨rfl, rfl⟩
set_option maxHeartbeats 1600000 in
theorem expr_Expr_Match.nil_ (s : ByteArray) (w : World) : Calls Try.prog 18 #[.pointer none, .string s] w fun e w' => e = .returned (.int .i64 3) ∧ w' = w := by
  go_enter Try.func18, Try.ntmps18
  go_wp2
  go_ret
  exact ⟨rfl, rfl⟩
set_option maxHeartbeats 1600000 in
theorem expr_Expr_Flush.calls (L : List (List (List ByteArray))) (n : Int) (B g : Nat) (ok : Nat → Prop) (w : World) (hx : ExS w B g ok L n) (hfr : ∀ k, w.heap.size ≤ k → ok k) :
    Calls Try.prog 19 #[.pointer (some ⟨g, 0, none⟩)] w fun e w' => e = .returned (.tuple #[]) ∧ ExS w' B g ok [[[]]] 0 ∧ XKeep (fun k => ok k ∧ B ≤ k) g w w' := by
  obtain ⟨v, hv, ho, hg⟩ := hx
  obtain ⟨A, cv, rfl⟩ := Kd.S_slice ho
  have HV := Lib.hid hv
  have HG := Lib.hid hg
  have HFR := Lib.hid hfr
  have k0 := blk_cell hv 0
  have k1 := blk_cell hv 1
  have f0 := blk_frozen hv 0
  have f1 := blk_frozen hv 1
  simp at k0 k1
  have hlt : g < w.heap.size := blk_lt hv
  have n1 := World.new_ne w _ k0
  have n2 := World.new_ne w _ k1
  clear hv ho hg hfr
  go_enter Try.func19, Try.ntmps19
  go_wp2
  refine Go.Great.bodyPost_end0 rfl rfl ?_
  have b1 := blk_put HV.out 0 (.slice (some ⟨w.heap.size + 1, 0, none⟩) 1 1) rfl
  have b2 := blk_put b1 1 (.int .i64 0) rfl
  have x1 : XKeep (fun k => ok k ∧ B ≤ k) g w ((w.setCell ⟨g, 0, none⟩ (.slice (some ⟨w.heap.size + 1, 0, none⟩) 1 1)).setCell ⟨g, 1, none⟩ (.int .i64 0)) := XKeep.own.trans XKeep.own
  have hs : ((w.setCell ⟨g, 0, none⟩ (.slice (some ⟨w.heap.size + 1, 0, none⟩) 1 1)).setCell ⟨g, 1, none⟩ (.int .i64 0)).heap.size = w.heap.size := by simp [World.setCell]
  generalize ((w.setCell ⟨g, 0, none⟩ (.slice (some ⟨w.heap.size + 1, 0, none⟩) 1 1)).setCell ⟨g, 1, none⟩ (.int .i64 0)) = W at b2 x1 hs
  have l0 := lv0 (w := W) (B := B) (ok := ok) (by rw [hs]; exact Nat.le_trans HG.out (Nat.le_of_lt hlt)) (by rw [hs]; exact HFR.out _ (Nat.le_refl _)) (by rw [hs]; exact HFR.out _ (Nat.le_succ _))
  rw [hs] at l0
  exact ⟨rfl, ⟨_, blk_alloc (blk_alloc b2 _) _, l0, HG.out⟩, x1.trans (XKeep.of_below (below_alloc (below_alloc (Below.refl _ _) _) _))⟩

-- GIVEN rounds=1 making=1 needs=(*logbook/expr.Expr).And,(*logbook/expr.Expr).Is
/-! ### logbooklaw26.awake: by hand -/
abbrev a1S : ByteArray := ⟨#[65, 61, 49]⟩
abbrev a2S : ByteArray := ⟨#[65, 61, 50]⟩
abbrev b1S : ByteArray := ⟨#[66, 61, 49]⟩
def awk3 : List ByteArray → List (List (List ByteArray)) → Int → Option (List (List (List ByteArray)) × Bool)
  | [], L, _ => some (L, true)
  | s :: t, L, n => (expr_Expr_Match.f s L n).bind fun x => if x.2.2 = 0 then awk3 t x.1 x.2.1 else some (x.1, false)
def logbooklaw26_awake.f (k : Nat) : Option Bool := (awk3 [a1S, a2S, b1S] [[[]]] 0).bind fun x => if x.2 = true then (expr_Expr_Is.f k x.1 [a2S, b1S]).bind fun a => if a = true then (expr_Expr_Is.f k x.1 [a1S, a2S]).bind fun b => some (!b) else some false else some false
theorem logbooklaw26_awake.mono : ∀ k, LeO (logbooklaw26_awake.f k) (logbooklaw26_awake.f (k + 1)) := fun k =>
  LeO.bind (LeO.refl _) (fun x => LeO.ite (LeO.bind (expr_Expr_Is.mono _ _ k) (fun a => LeO.ite (LeO.bind (expr_Expr_Is.mono _ _ k) (fun b => LeO.refl _)) (LeO.refl _))) (LeO.refl _))
theorem C_lit {w : World} {b t : Nat} {xs : List ByteArray} (h : w.heap[b]? = some (.cells (xs.map Value.string).toArray t (0, 0))) (hl : xs.length ≤ 1000000) : Kd.C Kd.string w (some ⟨b, 0, none⟩) xs.length xs := by
  refine ⟨rfl, by omega, fun _ => ⟨_, rfl, fun j p hj => ⟨[.string p], rfl, rfl, fun i u hu => ?_⟩⟩⟩
  cases i with
  | succ i => simp at hu
  | zero =>
    have hu : Value.string p = u := by simpa using hu
    subst hu
    rw [add_at, Nat.zero_add]
    have hj2 : j < xs.length := (List.getElem?_eq_some_iff.1 hj).1
    have hc := blk_cell h j
    show w.cell? ⟨b, j * 1 + 0, none⟩ = _
    rw [Nat.mul_one, Nat.add_zero, hc]
    simp [hj]
theorem ExS.lo {w : World} {B g : Nat} {ok : Nat → Prop} {L : List (List (List ByteArray))} {n : Int} (h : ExS w B g ok L n) : B ≤ g := by
  obtain ⟨_, _, _, h⟩ := h
  exact h
/-- asked of a literal of two items -/
theorem is2_calls (k : Nat) (L : List (List (List ByteArray))) (n : Int) (B g : Nat) (ok : Nat → Prop) (a b : ByteArray) (r : Bool) (W : World) (hx : ExS W B g ok L n) (h : expr_Expr_Is.f k L [a, b] = some r) :
    Calls Try.prog 10 #[.pointer (some ⟨g, 0, none⟩), .slice (some ⟨W.heap.size, 0, none⟩) 2 2] (W.alloc (.cells #[.string a, .string b] 9)) fun e w' => e = .returned (.bool r) ∧ Below W.heap.size W w' := by
  have hC : Kd.C Kd.string (W.alloc (.cells #[.string a, .string b] 9)) (some ⟨W.heap.size, 0, none⟩) 2 [a, b] := C_lit (xs := [a, b]) (blk_new W (.cells #[.string a, .string b] 9)) (by simp)
  refine (expr_Expr_Is.calls k L n B g ok (some ⟨W.heap.size, 0, none⟩) 2 [a, b] r _ (hx.below (below_alloc (Below.refl _ _) _)) hC (Nat.le_refl _) h).mono ?_
  rintro e w' ⟨rfl, hb⟩
  exact ⟨rfl, (below_alloc (Below.refl _ _) _).trans (hb.mono (by rw [World.size_alloc]; exact Nat.le_succ _))⟩
set_option maxHeartbeats 3200000 in
theorem logbooklaw26_awake.calls (k : Nat) (r : Bool) (w : World) (h : logbooklaw26_awake.f k = some r) :
    Calls Try.prog 6 #[] w fun e w' => e = .returned (.bool r) ∧ Below w.heap.size w w' := by
  unfold logbooklaw26_awake.f at h
  cases ha : awk3 [a1S, a2S, b1S] [[[]]] 0 with
  | none => rw [ha] at h; cases h
  | some x =>
  rw [ha] at h
  have HA := Lib.hid ha
  have HH := Lib.hid h
  clear ha h
  go_enter Try.func6, Try.ntmps6
  go_wp2_with (first
    | (go_at_call 7; (refine (expr_New.makes _).mono ?_); rintro e w2 ⟨g, rfl, hx, hg, hb⟩; have HX := Lib.hid hx; have HG := Lib.hid hg; have HB := Lib.hid hb; clear hx hg hb))
  rename World => W2
  have hs2 : w.heap.size ≤ W2.heap.size := HB.out.size
  have HS2 := Lib.hid hs2
  have HBK := Lib.hid (blk_new W2 (.cells #[.string a1S, .string a2S, .string b1S] 9))
  have hsz : (W2.alloc (.cells #[.string a1S, .string a2S, .string b1S] 9)).heap.size = W2.heap.size + 1 := World.size_alloc _ _
  have HSZ := Lib.hid hsz
  have HXA := Lib.hid (ExS.mono (HX.out.below (below_alloc (Below.refl _ _) (.cells #[.string a1S, .string a2S, .string b1S] 9))) (ok' := fun k => k ≠ W2.heap.size) (fun k hk => Nat.ne_of_lt hk.1))
  have HBA := Lib.hid (below_alloc HB.out (.cells #[.string a1S, .string a2S, .string b1S] 9))
  clear hs2 hsz
  go_loopw [9] (fun v wr => ∃ (q : Nat) (L : List (List (List ByteArray))) (n : Int), q ≤ 3 ∧ v = .int .i64 (q : Int) ∧ Hid (awk3 ([a1S, a2S, b1S].drop q) L n = some x) ∧ Hid (ExS wr w.heap.size g (fun k => k ≠ W2.heap.size) L n) ∧ Hid (Below w.heap.size w wr) ∧ Hid (wr.heap[W2.heap.size]? = some (.cells #[.string a1S, .string a2S, .string b1S] 9 (0, 0))) ∧ Hid (W2.heap.size + 1 ≤ wr.heap.size)) (fun v _ => 3 - (intOf v).toNat)
  case atStart => exact ⟨0, [[[]]], 0, by omega, rfl, HA, HXA, HBA, HBK, Lib.hid (Nat.le_of_eq HSZ.out.symm)⟩
  case round =>
    obtain ⟨q, L, n, hq, rfl, ha, hx, hb, hbk, hsz⟩ := hrel
    have k0 := blk_cell hbk.out 0
    have k1 := blk_cell hbk.out 1
    have k2 := blk_cell hbk.out 2
    simp at k0 k1 k2
    by_cases hq3 : q = 3
    · subst hq3
      have hx1 := ha.out
      have hx2 : some (L, true) = some x := hx1
      cases hx2
      have hh : ((expr_Expr_Is.f k L [a2S, b1S]).bind fun a => if a = true then (expr_Expr_Is.f k L [a1S, a2S]).bind fun b => some (!b) else some false) = some r := HH.out
      rw [show ((3 : Nat) : Int) = 3 from rfl]
      cases hi1 : expr_Expr_Is.f k L [a2S, b1S] with
      | none => rw [hi1] at hh; cases hh
      | some a =>
      rw [hi1] at hh
      have HI1 := Lib.hid hi1
      have hh2 : (if a = true then (expr_Expr_Is.f k L [a1S, a2S]).bind fun b => some (!b) else some false) = some r := hh
      clear hx1 hi1 hh
      cases a
      · rw [if_neg (by decide)] at hh2
        cases hh2
        go_wp2_with (first
          | (go_at_call 10; (with_reducible refine (is2_calls k L n w.heap.size g _ a2S b1S false _ hx.out HI1.out).mono ?_); rintro e w3 ⟨rfl, hb3⟩; have HB3 := Lib.hid hb3; clear hb3))
        go_ret
        exact ⟨rfl, hb.out.trans (HB3.out.mono hb.out.size)⟩
      · rw [if_pos rfl] at hh2
        cases hi2 : expr_Expr_Is.f k L [a1S, a2S] with
        | none => rw [hi2] at hh2; cases hh2
        | some b =>
        rw [hi2] at hh2
        have HI2 := Lib.hid hi2
        have HR := Lib.hid (Option.some.inj hh2)
        clear hi2 hh2
        go_wp2_with (first
          | (go_at_call 10; (with_reducible refine (is2_calls k L n w.heap.size g _ a2S b1S true _ hx.out HI1.out).mono ?_); rintro e w3 ⟨rfl, hb3⟩; have HB3 := Lib.hid hb3; have HX3 := Lib.hid (hx.out.below hb3); clear hb3)
          | (go_at_call 10; (with_reducible refine (is2_calls k L n w.heap.size g _ a1S a2S b _ HX3.out HI2.out).mono ?_); rintro e w4 ⟨rfl, hb4⟩; have HB4 := Lib.hid hb4; clear hb4))
        go_ret
        exact ⟨by rw [← HR.out]; first | done | rfl | simp, hb.out.trans ((HB3.out.trans (HB4.out.mono HB3.out.size)).mono hb.out.size)⟩
    · obtain ⟨s, hs, hd⟩ : ∃ s, wr.cell? ⟨W2.heap.size, q, none⟩ = some (.string s) ∧ [a1S, a2S, b1S].drop q = s :: [a1S, a2S, b1S].drop (q + 1) := by
        have h3 : q = 0 ∨ q = 1 ∨ q = 2 := by omega
        rcases h3 with rfl | rfl | rfl
        · exact ⟨_, k0, rfl⟩
        · exact ⟨_, k1, rfl⟩
        · exact ⟨_, k2, rfl⟩
      have hx1 := ha.out
      rw [hd, awk3] at hx1
      cases hm : expr_Expr_Match.f s L n with
      | none => rw [hm] at hx1; cases hx1
      | some y =>
      rw [hm] at hx1
      have hx2 : (if y.2.2 = 0 then awk3 ([a1S, a2S, b1S].drop (q + 1)) y.1 y.2.1 else some (y.1, false)) = some x := hx1
      obtain ⟨L2, n2, m⟩ := y
      have HM := Lib.hid hm
      have hq0 : (0 : Int) ≤ (q : Int) := by omega
      have hq1 : (q : Int) < 3 := by omega
      clear hx1 hm hd k0 k1 k2
      have hsz2 : W2.heap.size + 1 ≤ wr.heap.size := hsz.out
      have hw : w.heap.size ≤ W2.heap.size := HS2.out
      have hgw := ExS.lo HX.out
      have hgl := HG.out
      by_cases hz : m = 0
      · rw [if_pos hz] at hx2
        subst hz
        have HX2 := Lib.hid hx2
        clear hx2
        go_wp2_with (first
          | (go_at_call 18; (refine (expr_Expr_Match.calls s L n w.heap.size g _ L2 n2 0 _ hx.out (fun k hk => by omega) HM.out).mono ?_); rintro e w3 ⟨rfl, hx3, hk3⟩; have HX3 := Lib.hid hx3; have HK3 := Lib.hid hk3; clear hx3 hk3))
        go_roundw
        case rel => exact ⟨q + 1, L2, n2, by omega, by go_num, HX2, HX3, Lib.hid (hb.out.trans (HK3.out.below hb.out.size (fun k hk => ⟨fun h_ => by omega, by omega⟩))), Lib.hid ((HK3.out.block _ (by omega) (by omega) (.inl (fun h_ => h_.1 rfl))).trans hbk.out), Lib.hid (Nat.le_trans hsz2 HK3.out.size)⟩
        case measure => simp [intOf]; omega
      · rw [if_neg hz] at hx2
        cases hx2
        have hh : some false = some r := HH.out
        cases hh
        have hmb : (m == 0) = false := beq_eq_false_iff_ne.mpr hz
        have hmb2 : (m != 0) = true := bne_iff_ne.mpr hz
        go_wp2_with (first
          | (go_at_call 18; (refine (expr_Expr_Match.calls s L n w.heap.size g _ L2 n2 m _ hx.out (fun k hk => by omega) HM.out).mono ?_); rintro e w3 ⟨rfl, hx3, hk3⟩; have HX3 := Lib.hid hx3; have HK3 := Lib.hid hk3; clear hx3 hk3))
        go_ret
        exact ⟨rfl, hb.out.trans (HK3.out.below hb.out.size (fun k hk => ⟨fun h_ => by omega, by omega⟩))⟩

end Go.Proofs.Ytajlgbonapfckaa.PExprAsks
