-- LAID BY gprint.py: a scratch copy of the print, with functions that this session proved by hand among the printed ones
import Derived.Test.YtajlgbonapfckaaPExprAsksx0
namespace Go.Proofs.Ytajlgbonapfckaa.PExprAsks
open Go.RowKit Go.Proofs.YtajlgbonapfckaaW.PrintWords Go.Proofs.YtajlgbonapfckaaW.PrintLast Go.Proofs.Ytajlgbonapfckaa.Conv Go.Proofs.YtajlgbonapfckaaW.PrintMore
attribute [local go_sem] max2_int min2_int max_two min_two max_three min_three max_four min_four gtr_less   -- for this text's walks alone
set_option linter.unusedVariables false
set_option linter.unusedSimpArgs false

-- GIVEN rounds=0 making=1
/-! ### expr.Expr: by hand: what its blocks hold -/
namespace Kd
/-- A row whose elements' inner rows lie apart, as an element. -/
def aslice {α : Type} (e : Nat) (d : Kd α) : Kd (List α) where
  sz := 1
  E := e :: d.E
  K := fun w xs cs => ∃ A c, cs = [.slice A xs.length c] ∧ xs.length ≤ c ∧ Kd.C d w A xs.length xs
  M := fun w base ok xs cs => ∃ v, cs = [v] ∧ Kd.S d e w base ok v xs
  K_len := by
    rintro w x cs ⟨A, c, rfl, _⟩
    rfl
  K_one := by
    rintro w x cs ⟨A, c, rfl, _⟩ u hu
    rw [List.mem_singleton.1 hu]
    rfl
  K_below := by
    rintro w w1 x cs hb ⟨A, c, rfl, hl, hr⟩
    exact ⟨A, c, rfl, hl, Kd.C_below hr hb⟩
  K_of_M := by
    rintro w base ok x cs ⟨v, rfl, h⟩
    obtain ⟨A, c, rfl, hl, hr⟩ := Kd.S_reads h
    exact ⟨A, c, rfl, hl, hr⟩
  M_mono := by
    rintro w base ok ok' x cs hok ⟨v, rfl, h⟩
    exact ⟨v, rfl, Kd.S_mono h hok⟩
  M_bound := by
    rintro w base ok x cs ⟨v, rfl, h⟩
    exact ⟨v, rfl, Kd.S_bound h⟩
  M_move := by
    rintro w w1 base ok x cs hm ⟨v, rfl, h⟩
    exact ⟨v, rfl, Kd.S_move h hm⟩
  M_lower := by
    rintro w base base' ok x cs hb ⟨v, rfl, h⟩
    exact ⟨v, rfl, Kd.S_lower h hb⟩
/-- A literal of one element. -/
theorem S_lit1 {α : Type} (d : Kd α) {e base : Nat} {W : World} {ok okp : Nat → Prop} {x : α} {cs : List Value} (hM : d.M W base okp x cs) (hok : ∀ k, okp k → ok k) (hfresh : ok W.heap.size) (hbase : base ≤ W.heap.size) :
    Kd.S d e (W.alloc (.cells cs.toArray e)) base ok (.slice (some ⟨W.heap.size, 0, none⟩) 1 1) [x] := by
  have hl := d.K_len (d.K_of_M hM)
  refine ⟨fun _ => 0, fun k hk => ?_, cs, ?_, ?_⟩
  · have : W.heap.size = k := by simpa [Value.ownBlock] using hk
    subst this
    exact hfresh
  · have h2 := World.ownsRow_lit (base := base) (e := e) (size := d.sz) W cs.toArray 1 hbase (by decide) (by simp [hl])
    have h3 : (W.alloc (.cells cs.toArray e)).ownsRow base e d.sz (.slice (some ⟨W.heap.size, 0, none⟩) 1 1) 1 cs := by simpa using h2
    exact h3
  · have h3 : (Kd.tag (fun _ => 0) d).M (W.alloc (.cells cs.toArray e)) base (fun k => ok k ∧ some k ≠ (Value.slice (some ⟨W.heap.size, 0, none⟩) 1 1).ownBlock) (x, 0) cs := by
      refine d.M_mono (fun k hk => ⟨⟨hok k hk.1, fun he => ?_⟩, rfl⟩) (Kd.M_below (d.M_bound hM) (below_alloc (Below.refl _ _) _))
      have h3 : k = W.heap.size := by simpa [Value.ownBlock] using he
      have := hk.2.2.1
      omega
    have h4 := (Reps.none (((Kd.tag (fun _ => 0) d).M (W.alloc (.cells cs.toArray e)) base (fun k => ok k ∧ some k ≠ (Value.slice (some ⟨W.heap.size, 0, none⟩) 1 1).ownBlock))) d.sz).snoc h3 hl
    exact h4
end Kd
/-- a choice, a level -/
abbrev dCh : Kd (List ByteArray) := Kd.slice 9 Kd.string
abbrev dLv : Kd (List (List ByteArray)) := Kd.aslice 31 dCh
def ExS (w : World) (B g : Nat) (ok : Nat → Prop) (L : List (List (List ByteArray))) (n : Int) : Prop :=
  ∃ v, w.heap[g]? = some (.cells #[v, .int .i64 n] 49 (0, 0)) ∧ Kd.S dLv 23 w B ok v L ∧ B ≤ g
/-- what is not the expression's lies as it lay -/
structure XKeep (ok : Nat → Prop) (g : Nat) (w w' : World) : Prop where
  os : w'.os = w.os
  tape : w'.tape = w.tape
  output : w'.output = w.output
  size : w.heap.size ≤ w'.heap.size
  block : ∀ k, k < w.heap.size → k ≠ g → (¬ ok k ∨ ∃ cs t, w.heap[k]? = some (.cells cs t (0, 0)) ∧ t ≠ 9 ∧ t ≠ 31 ∧ t ≠ 23) → w'.heap[k]? = w.heap[k]?
theorem XKeep.refl (ok : Nat → Prop) (g : Nat) (w : World) : XKeep ok g w w := ⟨rfl, rfl, rfl, Nat.le_refl _, fun _ _ _ _ => rfl⟩
theorem XKeep.trans {ok : Nat → Prop} {g : Nat} {a b c : World} (h : XKeep ok g a b) (k : XKeep ok g b c) : XKeep ok g a c :=
  ⟨k.os.trans h.os, k.tape.trans h.tape, k.output.trans h.output, Nat.le_trans h.size k.size, fun i hi hg hx => by
    have h1 := h.block i hi hg hx
    refine (k.block i (Nat.lt_of_lt_of_le hi h.size) hg ?_).trans h1
    rw [h1]
    exact hx⟩
theorem XKeep.mono {ok ok' : Nat → Prop} {g : Nat} {a b : World} (h : XKeep ok g a b) (hok : ∀ k, ok k → ok' k) : XKeep ok' g a b :=
  ⟨h.os, h.tape, h.output, h.size, fun i hi hg hx => h.block i hi hg (hx.imp (fun h1 h2 => h1 (hok i h2)) id)⟩
theorem XKeep.below {ok : Nat → Prop} {g B : Nat} {a b : World} (h : XKeep ok g a b) (hB : B ≤ a.heap.size) (hok : ∀ k, k < B → ¬ ok k ∧ k ≠ g) : Below B a b :=
  ⟨h.os, h.tape, h.output, h.size, fun i hi => h.block i (by omega) (hok i hi).2 (.inl (hok i hi).1)⟩
theorem XKeep.of_below {ok : Nat → Prop} {g : Nat} {a b : World} (h : Below a.heap.size a b) : XKeep ok g a b :=
  ⟨h.os, h.tape, h.output, h.size, fun i hi _ _ => h.block i hi⟩
theorem XKeep.grown {ok : Nat → Prop} {g : Nat} {a b : World} {row : Option Nat} (h : a.grownBy b row) (hr : ∀ k, row = some k → k < a.heap.size → ok k ∧ ∃ cs t, a.heap[k]? = some (.cells cs t (0, 0)) ∧ (t = 9 ∨ t = 31 ∨ t = 23)) : XKeep ok g a b :=
  ⟨h.os, h.tape, h.output, h.size, fun i hi _ hx => h.block i hi (fun he => by
    obtain ⟨h1, cs, t, h2, h3⟩ := hr i he.symm hi
    rcases hx with hx | ⟨cs', t', h4, h5, h6, h7⟩
    · exact hx h1
    · rw [h2] at h4
      injection h4 with h4
      injection h4 with _ h4
      subst h4
      rcases h3 with h3 | h3 | h3
      · exact h5 h3
      · exact h6 h3
      · exact h7 h3)⟩
theorem XKeep.own {ok : Nat → Prop} {g j : Nat} {a : World} {u : Value} : XKeep ok g a (a.setCell ⟨g, j, none⟩ u) :=
  ⟨rfl, rfl, rfl, by simp [World.setCell], fun i _ hg _ => Below.heap_setCell a ⟨g, j, none⟩ u i hg⟩
theorem ExS.below {w w1 : World} {B g : Nat} {ok : Nat → Prop} {L : List (List (List ByteArray))} {n : Int} (h : ExS w B g ok L n) (hb : Below w.heap.size w w1) : ExS w1 B g ok L n := by
  obtain ⟨v, hv, ho, hg⟩ := h
  exact ⟨v, blk_below hv hb, Kd.S_below ho hb, hg⟩
theorem ExS.mono {w : World} {B g : Nat} {ok ok' : Nat → Prop} {L : List (List (List ByteArray))} {n : Int} (h : ExS w B g ok L n) (hok : ∀ k, ok k → ok' k) : ExS w B g ok' L n := by
  obtain ⟨v, hv, ho, hg⟩ := h
  exact ⟨v, hv, Kd.S_mono ho hok, hg⟩
theorem ExS.bound {w : World} {B g : Nat} {ok : Nat → Prop} {L : List (List (List ByteArray))} {n : Int} (h : ExS w B g ok L n) : ExS w B g (fun k => ok k ∧ B ≤ k ∧ k < w.heap.size) L n := by
  obtain ⟨v, hv, ho, hg⟩ := h
  exact ⟨v, hv, Kd.S_mono (Kd.S_bound ho) (fun k hk => ⟨hk.1, hk.2.1, hk.2.2.1⟩), hg⟩
/-- the three blocks of an expression that asks for all -/
theorem lv0 {w : World} {B : Nat} {ok : Nat → Prop} (hB : B ≤ w.heap.size) (h1 : ok w.heap.size) (h2 : ok (w.heap.size + 1)) :
    Kd.S dLv 23 ((w.alloc (.cells #[.slice none 0 0] 31)).alloc (.cells #[.slice (some ⟨w.heap.size, 0, none⟩) 1 1] 23)) B ok (.slice (some ⟨w.heap.size + 1, 0, none⟩) 1 1) [[[]]] := by
  have a1 : dCh.M w B (fun _ => False) [] [.slice none 0 0] := ⟨_, rfl, Kd.R_nil _ _ _ _ _⟩
  have a2 := Kd.S_lit1 dCh (e := 31) (ok := fun k => k = w.heap.size) a1 (fun _ h => h.elim) rfl hB
  have a3 : dLv.M (w.alloc (.cells #[.slice none 0 0] 31)) B (fun k => k = w.heap.size) [[]] [.slice (some ⟨w.heap.size, 0, none⟩) 1 1] := ⟨_, rfl, a2⟩
  have s1 : (w.alloc (.cells #[.slice none 0 0] 31)).heap.size = w.heap.size + 1 := World.size_alloc _ _
  have a4 := Kd.S_lit1 dLv (e := 23) (ok := ok) a3 (fun k hk => by subst hk; exact h1) (by rw [s1]; exact h2) (by rw [s1]; omega)
  rw [s1] at a4
  exact a4
set_option maxHeartbeats 1600000 in
theorem expr_New.makes (w : World) :
    Calls Try.prog 7 #[] w fun e w' => ∃ g, e = .returned (.pointer (some ⟨g, 0, none⟩)) ∧ ExS w' w.heap.size g (fun k => k < w'.heap.size ∧ k ≠ g) [[[]]] 0 ∧ g < w'.heap.size ∧ Below w.heap.size w w' := by
  go_enter Try.func7, Try.ntmps7
  go_wp2
  go_ret
  have s1 : (w.alloc (.cells #[.slice none 0 0] 31)).heap.size = w.heap.size + 1 := World.size_alloc _ _
  have s2 : ((w.alloc (.cells #[.slice none 0 0] 31)).alloc (.cells #[.slice (some ⟨w.heap.size, 0, none⟩) 1 1] 23)).heap.size = w.heap.size + 2 := by rw [World.size_alloc, s1]
  have s3 : (((w.alloc (.cells #[.slice none 0 0] 31)).alloc (.cells #[.slice (some ⟨w.heap.size, 0, none⟩) 1 1] 23)).alloc (.cells #[.slice (some ⟨w.heap.size + 1, 0, none⟩) 1 1, .int .i64 0] 49)).heap.size = w.heap.size + 3 := by rw [World.size_alloc, s2]
  refine ⟨w.heap.size + 2, rfl, ⟨_, ?_, Kd.S_alloc (lv0 (Nat.le_refl _) ?_ ?_) _, by omega⟩, by rw [s3]; omega, below_alloc (below_alloc (below_alloc (Below.refl _ _) _) _) _⟩
  · have h := blk_new ((w.alloc (.cells #[.slice none 0 0] 31)).alloc (.cells #[.slice (some ⟨w.heap.size, 0, none⟩) 1 1] 23)) (.cells #[.slice (some ⟨w.heap.size + 1, 0, none⟩) 1 1, .int .i64 0] 49)
    rw [s2] at h
    exact h
  · rw [s3]
    omega
  · rw [s3]
    omega

-- GIVEN rounds=0 making=1 shelf
/-! ### slices.Clone of texts: out of the shelf's contract -/
def slices_Clone_string_string.f (l0 : List ByteArray) : Option (List ByteArray) := if l0.length * 16 ≤ 140737488355328 then some l0 else none
theorem sl_plain_addr {w : World} {ad : Addr} {u : Value} (h : w.cell? ad = some u) : ad = ⟨ad.block, ad.off, none⟩ := by
  unfold World.cell? at h
  split at h
  · cases hs : ad.spot with
    | none => cases ad; simp only at hs; rw [hs]
    | some x => simp [hs] at h
  · simp at h
theorem sl_add (b o j : Nat) : (⟨b, o, none⟩ : Addr).add j = ⟨b, o + j, none⟩ := by
  unfold Addr.add
  by_cases h : j = 0 <;> simp [h]
theorem slices_Clone_string_string.calls (A0 : Option Addr) (c0 : Nat) (l0 : List ByteArray) (r : List ByteArray) (w : World) (hr0 : Kd.C Kd.string w A0 l0.length l0) (hc0 : l0.length ≤ c0) (h : slices_Clone_string_string.f l0 = some r) :
    Calls Try.prog 30 #[.slice A0 l0.length c0] w fun e w' => ∃ v0_ : Value, e = .returned (v0_) ∧ Kd.R Kd.string 9 w' w.heap.size (fun _ => True) v0_ r ∧ Below w.heap.size w w' := by
  unfold slices_Clone_string_string.f at h
  by_cases hb : l0.length * 16 ≤ 140737488355328
  case neg => rw [if_neg hb] at h; cases h
  rw [if_pos hb] at h
  obtain rfl := Option.some.inj h
  match l0, hr0, hc0, hb with
  | [], hr0, hc0, hb =>
    cases A0 with
    | none =>
      refine (Try.slices_Clone_string_nil 0 c0 w).mono ?_
      rintro e w' ⟨rfl, rfl⟩
      exact ⟨_, rfl, Kd.R_nil _ _ _ _ _, Below.refl _ _⟩
    | some a =>
      refine (Try.slices_Clone_string_zero a c0 w).mono ?_
      rintro e w' ⟨v, rfl, ho, _, hbl⟩
      exact ⟨v, rfl, Kd.R_of_own ho (fun _ _ => trivial), hbl⟩
  | x :: l, hr0, hc0, hb =>
    obtain ⟨ad, rfl, hcell⟩ := hr0.2.2 (by simp)
    have one : ∀ (j : Nat) y, (x :: l)[j]? = some y → w.cell? (ad.add j) = some (.string y) := by
      intro j y hj
      obtain ⟨c, h1, h2, h3⟩ := hcell j y hj
      have h4 : c = [.string y] := h2
      have := h3 0 (.string y) (by rw [h4]; rfl)
      simpa [Kd.string, Kd.scalar] using this
    have h7 : ad = ⟨ad.block, ad.off, none⟩ := by
      have h5 := sl_plain_addr (one 0 x rfl)
      have : ad.add 0 = ad := by simp [Addr.add]
      rw [this] at h5
      exact h5
    have hc : ∀ j, j < (x :: l).length → w.cell? ⟨ad.block, ad.off + j, none⟩ = some (.string ((x :: l).getD j ByteArray.empty)) := by
      intro j hj
      have h1 := one j (x :: l)[j] (List.getElem?_eq_getElem hj)
      rw [h7, sl_add] at h1
      rw [List.getD_eq_getElem?_getD, List.getElem?_eq_getElem hj]
      exact h1
    have := Try.slices_Clone_string ad.block ad.off (x :: l).length c0 (x :: l) w (Nat.le_refl _) hb hc
    rw [← h7] at this
    refine this.mono ?_
    rintro e w' ⟨v, rfl, ho, _, hbl⟩
    rw [List.take_of_length_le (Nat.le_refl _)] at ho
    exact ⟨v, rfl, Kd.R_of_own ho (fun _ _ => trivial), hbl⟩

-- GIVEN rounds=0 making=1 needs=logbook/expr.New,slices.Clone[[]string,string]
/-! ### (*expr.Expr).Levels: by hand -/
def chF (l : List (List ByteArray)) : List (List ByteArray) := l.filter (fun c => decide (0 < c.length))
def levF (L : List (List (List ByteArray))) : List (List (List ByteArray)) := (L.map chF).filter (fun l => decide (0 < l.length))
theorem lvInfo0 : (Try.prog.info? 23).map (fun i => (i.zero, i.size, i.bytes)) = some (some (.slice none 0 0), 1, 24) := by kernel_rfl
theorem chInfo0 : (Try.prog.info? 31).map (fun i => (i.zero, i.size, i.bytes)) = some (some (.slice none 0 0), 1, 24) := by kernel_rfl
abbrev dL3 : Kd (List (List ByteArray)) := Kd.slice 31 dCh
def expr_Expr_Levels.f (L : List (List (List ByteArray))) : Option (List (List (List ByteArray))) :=
  if L.length ≤ 1000000 ∧ ∀ l ∈ L, l.length ≤ 1000000 ∧ ∀ c ∈ l, c.length ≤ 1000000 then some (levF L) else none
theorem chF_snoc (l : List (List ByteArray)) (p : Nat) (h : p < l.length) : chF (l.take (p + 1)) = if 0 < (l.getD p []).length then chF (l.take p) ++ [l.getD p []] else chF (l.take p) := by
  unfold chF
  rw [List.take_add_one, List.getElem?_eq_getElem h, Option.toList_some, List.filter_append, List.getD_eq_getElem?_getD, List.getElem?_eq_getElem h, Option.getD_some]
  by_cases hc : 0 < (l[p]).length
  · rw [if_pos hc]
    simp [hc]
  · rw [if_neg hc]
    simp [hc]
theorem levF_snoc (L : List (List (List ByteArray))) (q : Nat) (h : q < L.length) : levF (L.take (q + 1)) = if 0 < (chF (L.getD q [])).length then levF (L.take q) ++ [chF (L.getD q [])] else levF (L.take q) := by
  unfold levF
  rw [List.take_add_one, List.getElem?_eq_getElem h, Option.toList_some, List.map_append, List.filter_append, List.getD_eq_getElem?_getD, List.getElem?_eq_getElem h, Option.getD_some]
  by_cases hc : 0 < (chF L[q]).length
  · rw [if_pos hc]
    simp [hc]
  · rw [if_neg hc]
    simp [hc]
theorem chF_len (l : List (List ByteArray)) : (chF l).length ≤ l.length := List.length_filter_le _ _
theorem levF_len (L : List (List (List ByteArray))) : (levF L).length ≤ L.length := Nat.le_trans (List.length_filter_le _ _) (by simp)
theorem getD_mem {α : Type} (l : List α) (p : Nat) (d : α) (h : p < l.length) : l.getD p d ∈ l := by
  rw [List.getD_eq_getElem?_getD, List.getElem?_eq_getElem h]
  exact List.getElem_mem h
set_option maxHeartbeats 1600000 in
theorem expr_Expr_Levels.nil_ (w : World) : Calls Try.prog 12 #[.pointer none] w fun e w' => e = .returned (.slice none 0 0) ∧ w' = w := by
  go_enter Try.func12, Try.ntmps12
  go_wp2
  go_ret
  exact ⟨rfl, rfl⟩
set_option maxHeartbeats 6400000 in
theorem expr_Expr_Levels.calls (L : List (List (List ByteArray))) (n : Int) (B g : Nat) (ok : Nat → Prop) (r : List (List (List ByteArray))) (w : World) (hx : ExS w B g ok L n) (h : expr_Expr_Levels.f L = some r) :
    Calls Try.prog 12 #[.pointer (some ⟨g, 0, none⟩)] w fun e w' => ∃ v0 : Value, e = .returned v0 ∧ Kd.R dL3 23 w' w.heap.size (fun _ => True) v0 r ∧ Below w.heap.size w w' := by
  unfold expr_Expr_Levels.f at h
  by_cases hz : L.length ≤ 1000000 ∧ ∀ l ∈ L, l.length ≤ 1000000 ∧ ∀ c ∈ l, c.length ≤ 1000000
  case neg => rw [if_neg hz] at h; cases h
  rw [if_pos hz] at h
  cases h
  obtain ⟨v, hv, ho, hg⟩ := id hx
  obtain ⟨A, cv, rfl⟩ := Kd.S_slice ho
  have k0 := blk_cell hv 0
  simp at k0
  have HZ := Lib.hid hz.2
  have hLz := hz.1
  have HO := Lib.hid ho
  clear hx hv ho hg hz
  go_enter Try.func12, Try.ntmps12
  go_wp2
  go_loopw [16, 3] (fun i o wr => ∃ (q : Nat), q ≤ L.length ∧ i = .int .i64 q ∧ Hid (Kd.R dL3 23 wr w.heap.size (fun _ => True) o (levF (L.take q))) ∧ Hid (Below w.heap.size w wr)) (fun i _ _ => L.length - (intOf i).toNat)
  case atStart => exact ⟨0, Nat.zero_le _, rfl, Lib.hid (Kd.R_nil _ _ _ _ _), Lib.hid (Below.refl _ _)⟩
  case round =>
    rename_i o
    obtain ⟨q, hq, hi, HR, HB⟩ := hrel
    subst hi
    by_cases hql : q = L.length
    · subst hql
      rw [List.take_length] at HR
      go_wp2
      go_ret
      exact ⟨_, rfl, HR.out, HB.out⟩
    have hq1 : q < L.length := by omega
    have hos := Kd.S_below HO.out (HB.out.mono (Nat.le_refl _))
    obtain ⟨gv, cv2, he, b1, b2, t1⟩ := Kd.S_form hos (by omega)
    injection he with he1 _ he2
    subst he1 he2
    obtain ⟨c1, hc1, ⟨vl, hvl, s1⟩, z1⟩ := Kd.S_get hos [] (q : Int) (by omega) (by omega)
    subst hvl
    rw [Int.toNat_natCast] at s1 z1
    have y1 := z1 0 _ rfl
    have u1 : (⟨gv, 0, none⟩ : Addr).add (q * dLv.sz + 0) = ⟨gv, q, none⟩ := by
      rw [add_at, Nat.zero_add]
      show (⟨gv, q * 1 + 0, none⟩ : Addr) = _
      rw [Nat.mul_one, Nat.add_zero]
    rw [u1] at y1
    have hZ1 := HZ.out _ (getD_mem L q [] hq1)
    have hsn := levF_snoc L q hq1
    generalize L.getD q [] = l at s1 hZ1 hsn
    obtain ⟨Al, cl, rfl⟩ := Kd.S_slice s1
    have HS1 := Lib.hid s1
    have HZ1 := Lib.hid hZ1.2
    have hlz := hZ1.1
    have HSN := Lib.hid hsn
    have HRB := Lib.hid (Kd.R_mono (Kd.R_bound HR.out) (ok' := fun k => k < wr.heap.size) (fun k hk => hk.2.2.1))
    have hqi : (q : Int) < (L.length : Int) := by omega
    clear hos b1 b2 t1 hc1 s1 z1 hZ1 hsn u1
    rename World => W0
    have HWB := Lib.hid HB.out.size
    go_wp2
    go_loopw [22, 6] (fun j lv wx => ∃ (p : Nat), p ≤ l.length ∧ j = .int .i64 p ∧ Hid (Kd.R dCh 31 wx W0.heap.size (fun _ => True) lv (chF (l.take p))) ∧ Hid (Kd.R dL3 23 wx w.heap.size (fun k => k < W0.heap.size) u3 (levF (L.take q))) ∧ Hid (Below W0.heap.size W0 wx)) (fun j _ _ => l.length - (intOf j).toNat)
    case atStart => exact ⟨0, Nat.zero_le _, rfl, Lib.hid (Kd.R_nil _ _ _ _ _), HRB, Lib.hid (Below.refl _ _)⟩
    case round =>
      obtain ⟨p, hp, hj, HLv, HOu, HBx⟩ := hrel
      subst hj
      obtain ⟨A6, c6, rfl⟩ := Kd.R_slice HLv.out
      have hb0 : w.heap.size ≤ W0.heap.size := HWB.out
      have HBW := Lib.hid (HB.out.trans (HBx.out.mono hb0))
      by_cases hpl : p = l.length
      · subst hpl
        rw [List.take_length] at HLv
        obtain ⟨A3, c3, rfl⟩ := Kd.R_slice HOu.out
        have hll := chF_len l
        have hLl := levF_len (L.take q)
        rw [List.length_take] at hLl
        by_cases hcl : 0 < (chF l).length
        · have hcl2 : 0 < ((chF l).length : Int) := by omega
          have hsn := HSN.out
          rw [if_pos hcl] at hsn
          have HSN2 := Lib.hid hsn
          have hcap : ((levF (L.take q)).length + 1) * 24 ≤ 140737488355328 := by omega
          have HCAP := Lib.hid hcap
          have h3 : ∀ k, (Value.slice A3 (levF (L.take q)).length c3).ownBlock = some k → k < W0.heap.size := HOu.out.1
          have H3 := Lib.hid h3
          clear hsn hcap h3
          go_wp2_with (first
            | (at_builtin; refine Kd.R_append dL3 (w0 := w) w.heap.size rfl (.tmp 38) (.tmp 40) 39 23 (.slice none 0 0) 24 rfl Try.underlying39 lvInfo0 rfl (by decide) (by omega) (.slice A3 (levF (L.take q)).length c3) (levF (L.take q)) (chF l) [.slice A6 (chF l).length c6] (fun _ => True) (fun k => W0.heap.size ≤ k) rfl rfl ⟨_, rfl, Kd.R_lower (Kd.R_mono (Kd.R_bound HLv.out) (fun k hk => hk.2.1)) HWB.out⟩ (fun k hk => ⟨trivial, fun he => by have := H3.out k he.symm; omega⟩) (fun _ _ => trivial) (Kd.R_mono HOu.out (fun _ _ => trivial)) HBW.out HBW.out.size HCAP.out ?_; intro v1 w1 hv1 hb1 hg1 _; obtain ⟨A1, c1, rfl⟩ := Kd.R_slice hv1; rw [← HSN2.out] at hv1; have HR1 := Lib.hid hv1; have HB1 := Lib.hid hb1; clear hv1 hb1 hg1))
          go_roundw
          case rel =>
            have el : (levF (L.take (q + 1))).length = (levF (L.take q)).length + 1 := by
              rw [HSN2.out]
              simp
            have hr := HR1.out
            rw [el] at hr
            exact ⟨q + 1, by omega, by go_num, Lib.hid hr, HB1⟩
          case measure => simp [intOf]; omega
        · have hcl2 : ¬ 0 < ((chF l).length : Int) := by omega
          have hsn := HSN.out
          rw [if_neg hcl] at hsn
          have HSN2 := Lib.hid hsn
          clear hsn
          go_wp2
          go_roundw
          case rel => exact ⟨q + 1, by omega, by go_num, Lib.hid (by rw [HSN2.out]; exact Kd.R_mono HOu.out (fun _ _ => trivial)), HBW⟩
          case measure => simp [intOf]; omega
      have hp1 : p < l.length := by omega
      have hos := Kd.S_below HS1.out HBx.out
      obtain ⟨gl, cl2, he, b1, b2, t1⟩ := Kd.S_form hos (by omega)
      injection he with he1 _ he2
      subst he1 he2
      obtain ⟨c1, hc1, ⟨vc, hvc, r1⟩, z1⟩ := Kd.S_get hos [] (p : Int) (by omega) (by omega)
      subst hvc
      rw [Int.toNat_natCast] at r1 z1
      have y2 := z1 0 _ rfl
      have u1 : (⟨gl, 0, none⟩ : Addr).add (p * dCh.sz + 0) = ⟨gl, p, none⟩ := by
        rw [add_at, Nat.zero_add]
        show (⟨gl, p * 1 + 0, none⟩ : Addr) = _
        rw [Nat.mul_one, Nat.add_zero]
      rw [u1] at y2
      have hZ1 := HZ1.out _ (getD_mem l p [] hp1)
      have hsn := chF_snoc l p hp1
      generalize l.getD p [] = c at r1 hZ1 hsn
      obtain ⟨Ac, cc, rfl⟩ := Kd.R_slice r1
      have HC := Lib.hid (Kd.R_reads' r1).2.2
      have HCL := Lib.hid (Kd.R_reads' r1).2.1
      have hpi : (p : Int) < (l.length : Int) := by omega
      have hll := chF_len (l.take p)
      rw [List.length_take] at hll
      clear hos b1 b2 t1 hc1 r1 z1 u1
      by_cases hcl : 0 < c.length
      · have hcl2 : 0 < (c.length : Int) := by omega
        rw [if_pos hcl] at hsn
        have HSN2 := Lib.hid hsn
        have HCAP := Lib.hid (show ((chF (l.take p)).length + 1) * 24 ≤ 140737488355328 by omega)
        have HCLN := Lib.hid (show slices_Clone_string_string.f c = some c by
          unfold slices_Clone_string_string.f
          rw [if_pos (by omega)])
        have H6 := Lib.hid (Kd.R_lt HLv.out)
        have H7 := Lib.hid (Kd.R_base HLv.out)
        clear hsn
        go_wp2_with (first
          | (go_at_call 30; (refine (slices_Clone_string_string.calls Ac cc c c _ HC.out HCL.out HCLN.out).mono ?_); rintro e w2 ⟨v2, rfl, hr2, hb2⟩; obtain ⟨A2, c2, rfl⟩ := Kd.R_slice hr2; have HR2 := Lib.hid hr2; have HB2 := Lib.hid hb2; clear hr2 hb2)
          | (at_builtin; refine Kd.R_append dCh (w0 := W0) W0.heap.size rfl (.tmp 29) (.tmp 32) 23 31 (.slice none 0 0) 24 rfl Try.underlying23 chInfo0 rfl (by decide) (by omega) (.slice A6 (chF (l.take p)).length c6) (chF (l.take p)) c [.slice A2 c.length c2] (fun _ => True) (fun k => wr.heap.size ≤ k) rfl rfl ⟨_, rfl, Kd.R_lower (Kd.R_mono (Kd.R_bound HR2.out) (fun k hk => hk.2.1)) HBx.out.size⟩ (fun k hk => ⟨trivial, fun he => by have := H6.out k he.symm; omega⟩) (fun _ _ => trivial) (Kd.R_below HLv.out HB2.out) (HBx.out.trans (HB2.out.mono HBx.out.size)) (Nat.le_trans HBx.out.size HB2.out.size) HCAP.out ?_; intro v1 w3 hv1 hb1 hg1 _; obtain ⟨A1, c1_, rfl⟩ := Kd.R_slice hv1; rw [← HSN2.out] at hv1; have HR1 := Lib.hid hv1; have HB1 := Lib.hid hb1; have HO3 := Lib.hid (Kd.R_grown (Kd.R_below HOu.out HB2.out) hg1 (fun k hk he => by have := H7.out k he.symm; omega)); clear hv1 hb1 hg1))
        go_roundw
        case rel =>
          have el : (chF (l.take (p + 1))).length = (chF (l.take p)).length + 1 := by
            rw [HSN2.out]
            simp
          have hr := HR1.out
          rw [el] at hr
          exact ⟨p + 1, by omega, by go_num, Lib.hid hr, HO3, HB1⟩
        case measure => simp [intOf]; omega
      · have hcl2 : ¬ 0 < (c.length : Int) := by omega
        rw [if_neg hcl] at hsn
        have HSN2 := Lib.hid hsn
        clear hsn
        go_wp2
        go_roundw
        case rel => exact ⟨p + 1, by omega, by go_num, Lib.hid (by rw [HSN2.out]; exact HLv.out), HOu, HBx⟩
        case measure => simp [intOf]; omega

-- GIVEN rounds=0 making=0
/-! ### internal/stringslite.Index: by hand: what is sought is one byte -/
def stringslite_Index.f (a0 : ByteArray) (a1 : ByteArray) : Option (Int) := if a1.size = 1 then some (Lib.indexByte a0.data.toList (a1.data.toList.getD 0 0)) else none
theorem stringslite_Index.byte (a0 : ByteArray) (a1 : Int) (w : World) :
    Calls Try.prog 72 #[.string a0, .int .u8 a1] w fun e w' => e = .returned (.int .i64 (Lib.indexByte a0.data.toList a1.toNat.toUInt8)) ∧ Drawn0 w w' := by
  go_enter Try.func72, Try.ntmps72
  go_wp2
  rw [run_callFunc_extern Try.func77 (by kernel_rfl) (by kernel_rfl) (by kernel_rfl) (e := Extern.BytealgIndexByte.indexByte) (by kernel_rfl), Lib.run_indexByteString]
  simp only [Result.andThen]
  rw [Oper.upon_value]
  go_wp2
  go_ret
  exact ⟨rfl, Drawn0.refl _⟩
set_option maxHeartbeats 1600000 in
theorem stringslite_Index.calls (a0 : ByteArray) (a1 : ByteArray) (r : Int) (w : World) (h : stringslite_Index.f a0 a1 = some r) :
    Calls Try.prog 66 #[.string a0, .string a1] w fun e w' => e = .returned (.int .i64 r) ∧ Drawn0 w w' := by
  unfold stringslite_Index.f at h
  by_cases hn : a1.size = 1
  case neg => rw [if_neg hn] at h; cases h
  rw [if_pos hn] at h
  obtain ⟨c, rfl⟩ : ∃ c : UInt8, a1 = ⟨#[c]⟩ := by
    obtain ⟨⟨l⟩⟩ := a1
    match l, hn with
    | [x], _ => exact ⟨x, rfl⟩
  obtain rfl : Lib.indexByte a0.data.toList c = r := Option.some.inj h
  clear h hn
  go_enter Try.func66, Try.ntmps66
  go_wp2_with (go_at_call 72; refine (stringslite_Index.byte _ _ _).mono ?_; rintro e w' ⟨rfl, hd⟩)
  · have h : ([c] == a0.toList) = true := by assumption
    go_ret
    refine ⟨?_, Drawn0.refl _⟩
    have e : a0.data.toList = [c] := by rw [← ByteArray.toList_eq]; exact (beq_iff_eq.1 h).symm
    rw [e]
    simp [Lib.indexByte]
  · go_ret
    exact ⟨rfl, hd⟩

/-! ### stringslite_Cut: function 53 -/
def stringslite_Cut.f (a0 : ByteArray) (a1 : ByteArray) : Option (ByteArray × ByteArray × Bool) := (stringslite_Index.f a0 a1).bind fun t101 => (if t101 ≥ 0 then (if 0 ≤ t101 then (if t101 ≤ (a0.size : Int) then (if 0 ≤ (wrap64 (t101 + (a1.size : Int))) then (if (wrap64 (t101 + (a1.size : Int))) ≤ (a0.size : Int) then (some (a0.extract 0 (t101 : Int).toNat, a0.extract ((wrap64 (t101 + (a1.size : Int))) : Int).toNat a0.size, true)) else (none)) else (none)) else (none)) else (none)) else (some (a0, (⟨#[]⟩ : ByteArray), false)))
set_option maxHeartbeats 8000000 in
set_option maxRecDepth 100000 in
theorem stringslite_Cut.calls (a0 : ByteArray) (a1 : ByteArray) (r1 : ByteArray) (r2 : ByteArray) (r3 : Bool) (w : World) (h : stringslite_Cut.f a0 a1 = some (r1, r2, r3)) :
    Calls Try.prog 53 #[.string a0, .string a1] w fun e w' => e = .returned (.tuple #[.string r1, .string r2, .bool r3]) ∧ Drawn0 w w' := by
  have H : ((stringslite_Index.f a0 a1).bind fun t101 => (if t101 ≥ 0 then (if 0 ≤ t101 then (if t101 ≤ (a0.size : Int) then (if 0 ≤ (wrap64 (t101 + (a1.size : Int))) then (if (wrap64 (t101 + (a1.size : Int))) ≤ (a0.size : Int) then (some (a0.extract 0 (t101 : Int).toNat, a0.extract ((wrap64 (t101 + (a1.size : Int))) : Int).toNat a0.size, true)) else (none)) else (none)) else (none)) else (none)) else (some (a0, (⟨#[]⟩ : ByteArray), false)))) = some (r1, r2, r3) := h
  clear h
  replace H := Option.bind_eq_some_iff.mp H
  obtain ⟨t101, A30, H⟩ := H
  replace H : (if t101 ≥ 0 then (if 0 ≤ t101 then (if t101 ≤ (a0.size : Int) then (if 0 ≤ (wrap64 (t101 + (a1.size : Int))) then (if (wrap64 (t101 + (a1.size : Int))) ≤ (a0.size : Int) then (some (a0.extract 0 (t101 : Int).toNat, a0.extract ((wrap64 (t101 + (a1.size : Int))) : Int).toNat a0.size, true)) else (none)) else (none)) else (none)) else (none)) else (some (a0, (⟨#[]⟩ : ByteArray), false))) = some (r1, r2, r3) := H
  have A3 := Aside0.mk A30
  clear A30
  by_cases c4 : t101 ≥ 0
  · rw [if_pos c4] at H
    have c4b0 : decide (0 ≤ t101) = true := decide_eq_true c4
    clear c4
    by_cases c5 : 0 ≤ t101
    · rw [if_pos c5] at H
      have c5b0 := eq_true c5
      have c5b1 : decide (0 ≤ t101) = true := decide_eq_true c5
      clear c5
      by_cases c6 : t101 ≤ (a0.size : Int)
      · rw [if_pos c6] at H
        have c6b0 := eq_true c6
        have c6b1 : decide (t101 ≤ (a0.size : Int)) = true := decide_eq_true c6
        clear c6
        obtain ⟨ji7, hji7⟩ : ∃ j_ : Int, (wrap64 (t101 + (a1.size : Int))) = j_ := ⟨_, rfl⟩
        replace H : (if 0 ≤ (ji7) then (if (ji7) ≤ (a0.size : Int) then (some (a0.extract 0 (t101 : Int).toNat, a0.extract ((ji7) : Int).toNat a0.size, true)) else (none)) else (none)) = some (r1, r2, r3) := by first | (rw [hji7] at H; exact H) | (simp only [hji7] at H ⊢; exact H)
        (try rw [hji7] at A3)
        have hji7w : (IntKind.i64.wrap (t101 + (a1.size : Int))) = ji7 := (i64_w _).trans hji7
        by_cases c8 : 0 ≤ (ji7)
        · rw [if_pos c8] at H
          have c8b0 := eq_true c8
          have c8b1 : decide (0 ≤ (ji7)) = true := decide_eq_true c8
          clear c8
          by_cases c9 : (ji7) ≤ (a0.size : Int)
          · rw [if_pos c9] at H
            have c9b0 := eq_true c9
            have c9b1 : decide ((ji7) ≤ (a0.size : Int)) = true := decide_eq_true c9
            clear c9
            simp only [Option.some.injEq, Prod.mk.injEq] at H
            obtain ⟨rfl, rfl, rfl⟩ := H
            go_enter Try.func53, Try.ntmps53
            go_wp2_with (first | (go_at_call 66; (with_reducible refine (stringslite_Index.calls a0 a1 t101 _ A3.out).mono ?_); rintro e w' ⟨rfl, ⟨nd, rfl⟩⟩; (try first | exact ⟨rfl, _, World.drewN_drewN _ _ _⟩ | exact ⟨rfl, _, Eq.trans (World.drewN_drewN _ _ _) (congrArg (World.drewN _) (Nat.add_assoc _ _ _))⟩)))
            repeat (go_quiet (first | (go_at_call 66; (with_reducible refine (stringslite_Index.calls a0 a1 t101 _ A3.out).mono ?_); rintro e w' ⟨rfl, ⟨nd, rfl⟩⟩; (try first | exact ⟨rfl, _, World.drewN_drewN _ _ _⟩ | exact ⟨rfl, _, Eq.trans (World.drewN_drewN _ _ _) (congrArg (World.drewN _) (Nat.add_assoc _ _ _))⟩))); try go_wp2_with (first | (go_at_call 66; (with_reducible refine (stringslite_Index.calls a0 a1 t101 _ A3.out).mono ?_); rintro e w' ⟨rfl, ⟨nd, rfl⟩⟩; (try first | exact ⟨rfl, _, World.drewN_drewN _ _ _⟩ | exact ⟨rfl, _, Eq.trans (World.drewN_drewN _ _ _) (congrArg (World.drewN _) (Nat.add_assoc _ _ _))⟩))))
            go_ret3
            exact ⟨by first | rfl | (simp; done) | (simp only [← hji7] <;> (first | rfl | simp)) | (simp [*]; done), by repeat (first | exact Drawn0.refl _ | apply Drawn0.step)⟩
          · rw [if_neg c9] at H
            exact absurd H (by simp)
        · rw [if_neg c8] at H
          exact absurd H (by simp)
      · rw [if_neg c6] at H
        exact absurd H (by simp)
    · rw [if_neg c5] at H
      exact absurd H (by simp)
  · rw [if_neg c4] at H
    have c4b0 : decide (0 ≤ t101) = false := decide_eq_false c4
    clear c4
    simp only [Option.some.injEq, Prod.mk.injEq] at H
    obtain ⟨rfl, rfl, rfl⟩ := H
    go_enter Try.func53, Try.ntmps53
    go_wp2_with (first | (go_at_call 66; (with_reducible refine (stringslite_Index.calls a0 a1 t101 _ A3.out).mono ?_); rintro e w' ⟨rfl, ⟨nd, rfl⟩⟩; (try first | exact ⟨rfl, _, World.drewN_drewN _ _ _⟩ | exact ⟨rfl, _, Eq.trans (World.drewN_drewN _ _ _) (congrArg (World.drewN _) (Nat.add_assoc _ _ _))⟩)))
    repeat (go_quiet (first | (go_at_call 66; (with_reducible refine (stringslite_Index.calls a0 a1 t101 _ A3.out).mono ?_); rintro e w' ⟨rfl, ⟨nd, rfl⟩⟩; (try first | exact ⟨rfl, _, World.drewN_drewN _ _ _⟩ | exact ⟨rfl, _, Eq.trans (World.drewN_drewN _ _ _) (congrArg (World.drewN _) (Nat.add_assoc _ _ _))⟩))); try go_wp2_with (first | (go_at_call 66; (with_reducible refine (stringslite_Index.calls a0 a1 t101 _ A3.out).mono ?_); rintro e w' ⟨rfl, ⟨nd, rfl⟩⟩; (try first | exact ⟨rfl, _, World.drewN_drewN _ _ _⟩ | exact ⟨rfl, _, Eq.trans (World.drewN_drewN _ _ _) (congrArg (World.drewN _) (Nat.add_assoc _ _ _))⟩))))
    go_ret3
    exact ⟨by first | rfl | (simp; done) | (simp [*]; done) | exact isEmpty_bne _, by repeat (first | exact Drawn0.refl _ | apply Drawn0.step)⟩

/-! ### strings_Cut: function 46 -/
def strings_Cut.f (a0 : ByteArray) (a1 : ByteArray) : Option (ByteArray × ByteArray × Bool) := (stringslite_Cut.f a0 a1).bind fun bt102 => (some (bt102.1, bt102.2.1, bt102.2.2))
set_option maxHeartbeats 8000000 in
set_option maxRecDepth 100000 in
theorem strings_Cut.calls (a0 : ByteArray) (a1 : ByteArray) (r1 : ByteArray) (r2 : ByteArray) (r3 : Bool) (w : World) (h : strings_Cut.f a0 a1 = some (r1, r2, r3)) :
    Calls Try.prog 46 #[.string a0, .string a1] w fun e w' => e = .returned (.tuple #[.string r1, .string r2, .bool r3]) ∧ Drawn0 w w' := by
  have H : ((stringslite_Cut.f a0 a1).bind fun bt102 => (some (bt102.1, bt102.2.1, bt102.2.2))) = some (r1, r2, r3) := h
  clear h
  replace H := Option.bind_eq_some_iff.mp H
  obtain ⟨⟨t102, t103, t104⟩, A30, H⟩ := H
  replace H : (some (t102, t103, t104)) = some (r1, r2, r3) := H
  have A3 := Aside0.mk A30
  clear A30
  simp only [Option.some.injEq, Prod.mk.injEq] at H
  obtain ⟨rfl, rfl, rfl⟩ := H
  go_enter Try.func46, Try.ntmps46
  go_wp2_with (first | ((with_reducible refine gate_callee (f := 53) rfl ?_); refine goesL_ (some 9) rfl rfl Try.func53 (by kernel_rfl) rfl #[.string a0, .string a1] rfl (by (try simp only [List.map_toArray, List.map_cons, List.map_nil]); first | done | rfl | (simp only [List.length_drop, List.length_take]; rfl)) ?_; (with_reducible refine (stringslite_Cut.calls a0 a1 t102 t103 t104 _ A3.out).mono ?_); rintro e w' ⟨rfl, ⟨nd, rfl⟩⟩; refine ⟨_, rfl, ?_⟩))
  go_ret3
  exact ⟨by first | rfl | (simp; done) | (simp [*]; done) | exact isEmpty_bne _, by repeat (first | exact Drawn0.refl _ | apply Drawn0.step)⟩

-- GIVEN rounds=0 making=1
/-! ### item_Name: by hand: a loop over []byte(s) -/
def nameB (c : Int) : Bool := c == 95 || (decide (65 ≤ c) && decide (c ≤ 90)) || (decide (48 ≤ c) && decide (c ≤ 57))
theorem nameB_yes {c : Int} (h : c = 95 ∨ (65 ≤ c ∧ c ≤ 90) ∨ (48 ≤ c ∧ c ≤ 57)) : nameB c = true := by
  unfold nameB
  simp
  omega
theorem nameB_no {c : Int} (h : ¬ (c = 95 ∨ (65 ≤ c ∧ c ≤ 90) ∨ (48 ≤ c ∧ c ≤ 57))) : nameB c = false := by
  unfold nameB
  simp
  omega
def item_Name.f (a0 : ByteArray) : Option (Bool) := if a0.size = 0 then some false else if a0.size > 64 then some false else if 48 ≤ bt a0 0 ∧ bt a0 0 ≤ 57 then some false else some ((bytesOf a0).all nameB)
set_option maxHeartbeats 1600000 in
theorem item_Name.calls (a0 : ByteArray) (r : Bool) (w : World) (h : item_Name.f a0 = some r) :
    Calls Try.prog 47 #[.string a0] w fun e w' => e = .returned (.bool r) ∧ Below w.heap.size w w' := by
  unfold item_Name.f at h
  have kc := fun (w : World) => Lib.run_convert_string_bytes (P := Try.prog) w 9 75 5 a0 Try.underlying9 Try.underlying75 Try.underlying5
  by_cases hz : a0.size = 0
  · rw [if_pos hz] at h
    obtain rfl := Option.some.inj h
    have e1 := toList_nil hz
    clear hz h
    go_enter Try.func47, Try.ntmps47
    go_wp2
    go_ret
    exact ⟨rfl, Below.refl _ _⟩
  rw [if_neg hz] at h
  obtain ⟨e1, e2⟩ := toList_ne hz
  by_cases h64 : a0.size > 64
  · rw [if_pos h64] at h
    obtain rfl := Option.some.inj h
    have e3 : 64 < (a0.size : Int) := by omega
    clear hz h
    go_enter Try.func47, Try.ntmps47
    go_wp2
    go_ret
    exact ⟨rfl, Below.refl _ _⟩
  rw [if_neg h64] at h
  have e3 : (a0.size : Int) ≤ 64 := by omega
  have e4 : 0 < a0.size := by omega
  have e5 := bt0 e4
  rw [e5] at h
  clear e5 hz
  by_cases hd : (48 : Int) ≤ ((a0[0]'e4).toNat : Int) ∧ ((a0[0]'e4).toNat : Int) ≤ (57 : Int)
  · rw [if_pos hd] at h
    obtain rfl := Option.some.inj h
    obtain ⟨d1, d2⟩ := hd
    clear h
    go_enter Try.func47, Try.ntmps47
    go_wp2
    go_ret
    exact ⟨rfl, Below.refl _ _⟩
  rw [if_neg hd] at h
  have hr : Hid ((bytesOf a0).all nameB = r) := Lib.hid (Option.some.inj h)
  clear h
  have hd' : ((a0[0]'e4).toNat : Int) < (48 : Int) ∨ (57 : Int) < ((a0[0]'e4).toNat : Int) := by omega
  clear hd
  have hB := below_bytes w 5 a0
  have HC : Hid (∀ k, k < a0.size → (Lib.bytesWorld w 5 a0).cell? ⟨w.heap.size, k, none⟩ = some (.int .u8 (a0.data.toList.getD k 0).toNat)) := Lib.hid (fun k hk => Lib.bytesWorld_cell w 5 a0 k hk)
  rcases hd' with d1 | d1
  all_goals
    go_enter Try.func47, Try.ntmps47
    go_wp2
    go_loop [25, 4] (fun i c => ∃ k : Nat, k ≤ a0.size ∧ i = .int .i64 k ∧ Hid (((bytesOf a0).take k).all nameB = true)) (fun i _ => a0.size - (intOf i).toNat)
    case atStart => exact ⟨0, Nat.zero_le _, rfl, Lib.hid rfl⟩
    case round =>
      obtain ⟨k, hk, rfl, ha⟩ := hrel
      by_cases hlt : k < a0.size
      · have hc := HC.out k hlt
        have hb := byte_range a0 k
        generalize hg : ((a0.data.toList.getD k 0).toNat : Int) = c at hc hb
        have HG := Lib.hid hg
        clear hg
        go_wp2
        all_goals (try simp only [bne_iff_ne, ne_eq, bne_eq_false_iff_eq] at *)
        all_goals first
          | (go_round
             case rel => exact ⟨k + 1, by omega, by go_num, Lib.hid (take_succ_all a0 k hlt ha.out (by rw [HG.out]; first | exact nameB_yes (by omega) | exact nameB_no (by omega)))⟩
             case measure => simp [intOf]; omega)
          | (go_ret
             exact ⟨ret_bool (by rw [← hr.out]; exact (all_false a0 k hlt (by rw [HG.out]; first | exact nameB_yes (by omega) | exact nameB_no (by omega))).symm), hB⟩)
      · go_wp2
        go_ret
        exact ⟨ret_bool (by rw [← hr.out]; exact (all_done a0 k hlt ha.out).symm), hB⟩

/-! ### item_Split: function 39 -/
def item_Split.f (a0 : ByteArray) : Option (ByteArray × ByteArray × Bool) := (strings_Cut.f a0 (⟨#[61]⟩ : ByteArray)).bind fun bt105 => (if bt105.2.2 = true then ((item_Name.f bt105.1).bind fun t108 => (if t108 = true then (some (bt105.1, bt105.2.1, true)) else (some ((⟨#[]⟩ : ByteArray), (⟨#[]⟩ : ByteArray), false)))) else (some ((⟨#[]⟩ : ByteArray), (⟨#[]⟩ : ByteArray), false)))
set_option maxHeartbeats 8000000 in
set_option maxRecDepth 100000 in
theorem item_Split.calls (a0 : ByteArray) (r1 : ByteArray) (r2 : ByteArray) (r3 : Bool) (w : World) (h : item_Split.f a0 = some (r1, r2, r3)) :
    Calls Try.prog 39 #[.string a0] w fun e w' => e = .returned (.tuple #[.string r1, .string r2, .bool r3]) ∧ Below w.heap.size w w' := by
  have HB := Aside0.mk (Below.refl w.heap.size w)
  have H : ((strings_Cut.f a0 (⟨#[61]⟩ : ByteArray)).bind fun bt105 => (if bt105.2.2 = true then ((item_Name.f bt105.1).bind fun t108 => (if t108 = true then (some (bt105.1, bt105.2.1, true)) else (some ((⟨#[]⟩ : ByteArray), (⟨#[]⟩ : ByteArray), false)))) else (some ((⟨#[]⟩ : ByteArray), (⟨#[]⟩ : ByteArray), false)))) = some (r1, r2, r3) := h
  clear h
  replace H := Option.bind_eq_some_iff.mp H
  obtain ⟨⟨t105, t106, t107⟩, A20, H⟩ := H
  replace H : (if t107 = true then ((item_Name.f t105).bind fun t108 => (if t108 = true then (some (t105, t106, true)) else (some ((⟨#[]⟩ : ByteArray), (⟨#[]⟩ : ByteArray), false)))) else (some ((⟨#[]⟩ : ByteArray), (⟨#[]⟩ : ByteArray), false))) = some (r1, r2, r3) := H
  have A2 := Aside0.mk A20
  clear A20
  by_cases c3 : t107 = true
  · subst c3
    have H1 : ((item_Name.f t105).bind fun t108 => (if t108 = true then (some (t105, t106, true)) else (some ((⟨#[]⟩ : ByteArray), (⟨#[]⟩ : ByteArray), false)))) = some (r1, r2, r3) := by rw [if_pos rfl] at H; exact H
    clear H
    have H := H1
    clear H1
    replace H := Option.bind_eq_some_iff.mp H
    obtain ⟨t108, A40, H⟩ := H
    replace H : (if t108 = true then (some (t105, t106, true)) else (some ((⟨#[]⟩ : ByteArray), (⟨#[]⟩ : ByteArray), false))) = some (r1, r2, r3) := H
    have A4 := Aside0.mk A40
    clear A40
    by_cases c5 : t108 = true
    · subst c5
      have H1 : (some (t105, t106, true)) = some (r1, r2, r3) := by rw [if_pos rfl] at H; exact H
      clear H
      have H := H1
      clear H1
      simp only [Option.some.injEq, Prod.mk.injEq] at H
      obtain ⟨rfl, rfl, rfl⟩ := H
      go_enter Try.func39, Try.ntmps39
      go_wp2_with (first | ((with_reducible refine gate_callee (f := 46) rfl ?_); refine goesL_ (some 7) rfl rfl Try.func46 (by kernel_rfl) rfl #[.string a0, .string (⟨#[61]⟩ : ByteArray)] rfl (by (try simp only [List.map_toArray, List.map_cons, List.map_nil]); first | done | rfl | (simp only [List.length_drop, List.length_take]; rfl)) ?_; (with_reducible refine (strings_Cut.calls a0 (⟨#[61]⟩ : ByteArray) t105 t106 true _ A2.out).mono ?_); rintro e w' ⟨rfl, ⟨nd, rfl⟩⟩; refine ⟨_, rfl, ?_⟩) | (go_at_call 47; (with_reducible refine (item_Name.calls t105 true _ A4.out).mono ?_); rintro e w6 ⟨rfl, hb⟩; have n0_ := Aside0.mk (below_step (by repeat (first | (with_reducible first | exact HB.out | apply below_alloc | apply pw_below_drewN | apply below_drew1) | exact HB.out)) hb); clear HB; have HB := n0_; clear n0_; (try clear hb); (try clear hb2); (try clear hk); (try clear hi)))
      go_ret3
      exact ⟨by first | rfl | (simp [errW_none, errW_some] <;> rfl) | (simp [*, errW_none, errW_some] <;> rfl), by repeat (first | (with_reducible first | exact HB.out | apply below_alloc | apply pw_below_drewN | apply below_drew1) | exact HB.out)⟩
    · replace c5 := Bool.eq_false_iff.mpr c5
      subst c5
      have H1 : (some ((⟨#[]⟩ : ByteArray), (⟨#[]⟩ : ByteArray), false)) = some (r1, r2, r3) := by rw [if_neg (show ¬ (false = true) by decide)] at H; exact H
      clear H
      have H := H1
      clear H1
      simp only [Option.some.injEq, Prod.mk.injEq] at H
      obtain ⟨rfl, rfl, rfl⟩ := H
      go_enter Try.func39, Try.ntmps39
      go_wp2_with (first | ((with_reducible refine gate_callee (f := 46) rfl ?_); refine goesL_ (some 7) rfl rfl Try.func46 (by kernel_rfl) rfl #[.string a0, .string (⟨#[61]⟩ : ByteArray)] rfl (by (try simp only [List.map_toArray, List.map_cons, List.map_nil]); first | done | rfl | (simp only [List.length_drop, List.length_take]; rfl)) ?_; (with_reducible refine (strings_Cut.calls a0 (⟨#[61]⟩ : ByteArray) t105 t106 true _ A2.out).mono ?_); rintro e w' ⟨rfl, ⟨nd, rfl⟩⟩; refine ⟨_, rfl, ?_⟩) | (go_at_call 47; (with_reducible refine (item_Name.calls t105 false _ A4.out).mono ?_); rintro e w7 ⟨rfl, hb⟩; have n0_ := Aside0.mk (below_step (by repeat (first | (with_reducible first | exact HB.out | apply below_alloc | apply pw_below_drewN | apply below_drew1) | exact HB.out)) hb); clear HB; have HB := n0_; clear n0_; (try clear hb); (try clear hb2); (try clear hk); (try clear hi)))
      go_ret3
      exact ⟨by first | rfl | (simp [errW_none, errW_some] <;> rfl) | (simp [*, errW_none, errW_some] <;> rfl), by repeat (first | (with_reducible first | exact HB.out | apply below_alloc | apply pw_below_drewN | apply below_drew1) | exact HB.out)⟩
  · replace c3 := Bool.eq_false_iff.mpr c3
    subst c3
    have H1 : (some ((⟨#[]⟩ : ByteArray), (⟨#[]⟩ : ByteArray), false)) = some (r1, r2, r3) := by rw [if_neg (show ¬ (false = true) by decide)] at H; exact H
    clear H
    have H := H1
    clear H1
    simp only [Option.some.injEq, Prod.mk.injEq] at H
    obtain ⟨rfl, rfl, rfl⟩ := H
    go_enter Try.func39, Try.ntmps39
    go_wp2_with (first | ((with_reducible refine gate_callee (f := 46) rfl ?_); refine goesL_ (some 7) rfl rfl Try.func46 (by kernel_rfl) rfl #[.string a0, .string (⟨#[61]⟩ : ByteArray)] rfl (by (try simp only [List.map_toArray, List.map_cons, List.map_nil]); first | done | rfl | (simp only [List.length_drop, List.length_take]; rfl)) ?_; (with_reducible refine (strings_Cut.calls a0 (⟨#[61]⟩ : ByteArray) t105 t106 false _ A2.out).mono ?_); rintro e w' ⟨rfl, ⟨nd, rfl⟩⟩; refine ⟨_, rfl, ?_⟩))
    go_ret3
    exact ⟨by first | rfl | (simp [errW_none, errW_some] <;> rfl) | (simp [*, errW_none, errW_some] <;> rfl), by repeat (first | (with_reducible first | exact HB.out | apply below_alloc | apply pw_below_drewN | apply below_drew1) | exact HB.out)⟩

/-! ### item_Field: function 33 -/
def item_Field.f (a0 : ByteArray) : Option (ByteArray) := (item_Split.f a0).bind fun bt109 => (some bt109.1)
set_option maxHeartbeats 8000000 in
set_option maxRecDepth 100000 in
theorem item_Field.calls (a0 : ByteArray) (r : ByteArray) (w : World) (h : item_Field.f a0 = some r) :
    Calls Try.prog 33 #[.string a0] w fun e w' => e = .returned (.string r) ∧ Below w.heap.size w w' := by
  have HB := Aside0.mk (Below.refl w.heap.size w)
  have H : ((item_Split.f a0).bind fun bt109 => (some bt109.1)) = some r := h
  clear h
  replace H := Option.bind_eq_some_iff.mp H
  obtain ⟨⟨t109, t110, t111⟩, A20, H⟩ := H
  replace H : (some t109) = some r := H
  have A2 := Aside0.mk A20
  clear A20
  obtain rfl := Option.some.inj H
  go_enter Try.func33, Try.ntmps33
  go_wp2_with (first | ((with_reducible refine gate_callee (f := 39) rfl ?_); refine goesL_ (some 8) rfl rfl Try.func39 (by kernel_rfl) rfl #[.string a0] rfl (by (try simp only [List.map_toArray, List.map_cons, List.map_nil]); first | done | rfl | (simp only [List.length_drop, List.length_take]; rfl)) ?_; (with_reducible refine (item_Split.calls a0 t109 t110 t111 _ A2.out).mono ?_); rintro e w3 ⟨rfl, hb⟩; refine ⟨_, rfl, ?_⟩; have n0_ := Aside0.mk (below_step (by repeat (first | (with_reducible first | exact HB.out | apply below_alloc | apply pw_below_drewN | apply below_drew1) | exact HB.out)) hb); clear HB; have HB := n0_; clear n0_; (try clear hb); (try clear hb2); (try clear hk); (try clear hi)))
  go_ret
  exact ⟨by first | rfl | (simp [errW_none, errW_some] <;> rfl) | (simp [*, errW_none, errW_some] <;> rfl), by repeat (first | (with_reducible first | exact HB.out | apply below_alloc | apply pw_below_drewN | apply below_drew1) | exact HB.out)⟩

/-! ### cmp_isNaN_string: function 65 -/
def cmp_isNaN_string.f (a0 : ByteArray) : Option (Bool) := some (a0.toList != a0.toList)
set_option maxHeartbeats 8000000 in
set_option maxRecDepth 100000 in
theorem cmp_isNaN_string.calls (a0 : ByteArray) (r : Bool) (w : World) (h : cmp_isNaN_string.f a0 = some r) :
    Calls Try.prog 65 #[.string a0] w fun e w' => e = .returned (.bool r) ∧ Drawn0 w w' := by
  have H : (some (a0.toList != a0.toList)) = some r := h
  clear h
  obtain rfl := Option.some.inj H
  go_enter Try.func65, Try.ntmps65
  go_wp2
  go_ret
  exact ⟨by first | rfl | (simp; done) | (simp [*]; done) | exact isEmpty_bne _, by repeat (first | exact Drawn0.refl _ | apply Drawn0.step)⟩

/-! ### cmp_Less_string: function 51 -/
def cmp_Less_string.f (a0 : ByteArray) (a1 : ByteArray) : Option (Bool) := (cmp_isNaN_string.f a0).bind fun t112 => (if t112 = true then ((cmp_isNaN_string.f a1).bind fun t113 => (if t113 = true then (some (Op.bytesLess a0.toList a1.toList)) else (some true))) else (some (Op.bytesLess a0.toList a1.toList)))
set_option maxHeartbeats 8000000 in
set_option maxRecDepth 100000 in
theorem cmp_Less_string.calls (a0 : ByteArray) (a1 : ByteArray) (r : Bool) (w : World) (h : cmp_Less_string.f a0 a1 = some r) :
    Calls Try.prog 51 #[.string a0, .string a1] w fun e w' => e = .returned (.bool r) ∧ Drawn0 w w' := by
  have H : ((cmp_isNaN_string.f a0).bind fun t112 => (if t112 = true then ((cmp_isNaN_string.f a1).bind fun t113 => (if t113 = true then (some (Op.bytesLess a0.toList a1.toList)) else (some true))) else (some (Op.bytesLess a0.toList a1.toList)))) = some r := h
  clear h
  replace H := Option.bind_eq_some_iff.mp H
  obtain ⟨t112, A30, H⟩ := H
  replace H : (if t112 = true then ((cmp_isNaN_string.f a1).bind fun t113 => (if t113 = true then (some (Op.bytesLess a0.toList a1.toList)) else (some true))) else (some (Op.bytesLess a0.toList a1.toList))) = some r := H
  have A3 := Aside0.mk A30
  clear A30
  by_cases c4 : t112 = true
  · subst c4
    have H1 : ((cmp_isNaN_string.f a1).bind fun t113 => (if t113 = true then (some (Op.bytesLess a0.toList a1.toList)) else (some true))) = some r := by rw [if_pos rfl] at H; exact H
    clear H
    have H := H1
    clear H1
    replace H := Option.bind_eq_some_iff.mp H
    obtain ⟨t113, A50, H⟩ := H
    replace H : (if t113 = true then (some (Op.bytesLess a0.toList a1.toList)) else (some true)) = some r := H
    have A5 := Aside0.mk A50
    clear A50
    by_cases c6 : t113 = true
    · subst c6
      have H1 : (some (Op.bytesLess a0.toList a1.toList)) = some r := by rw [if_pos rfl] at H; exact H
      clear H
      have H := H1
      clear H1
      obtain rfl := Option.some.inj H
      go_enter Try.func51, Try.ntmps51
      go_wp2_with (first | ((with_reducible refine gate_callee (f := 65) rfl ?_); refine goesL_ (some 6) rfl rfl Try.func65 (by kernel_rfl) rfl #[.string a0] rfl (by (try simp only [List.map_toArray, List.map_cons, List.map_nil]); first | done | rfl | (simp only [List.length_drop, List.length_take]; rfl)) ?_; (with_reducible refine (cmp_isNaN_string.calls a0 true _ A3.out).mono ?_); rintro e w' ⟨rfl, ⟨nd, rfl⟩⟩; refine ⟨_, rfl, ?_⟩) | (go_at_call 65; (with_reducible refine (cmp_isNaN_string.calls a1 true _ A5.out).mono ?_); rintro e w' ⟨rfl, ⟨nd, rfl⟩⟩))
      go_ret
      exact ⟨by first | rfl | (simp; done) | (simp [*]; done) | exact isEmpty_bne _, by repeat (first | exact Drawn0.refl _ | apply Drawn0.step)⟩
    · replace c6 := Bool.eq_false_iff.mpr c6
      subst c6
      have H1 : (some true) = some r := by rw [if_neg (show ¬ (false = true) by decide)] at H; exact H
      clear H
      have H := H1
      clear H1
      obtain rfl := Option.some.inj H
      go_enter Try.func51, Try.ntmps51
      go_wp2_with (first | ((with_reducible refine gate_callee (f := 65) rfl ?_); refine goesL_ (some 6) rfl rfl Try.func65 (by kernel_rfl) rfl #[.string a0] rfl (by (try simp only [List.map_toArray, List.map_cons, List.map_nil]); first | done | rfl | (simp only [List.length_drop, List.length_take]; rfl)) ?_; (with_reducible refine (cmp_isNaN_string.calls a0 true _ A3.out).mono ?_); rintro e w' ⟨rfl, ⟨nd, rfl⟩⟩; refine ⟨_, rfl, ?_⟩) | (go_at_call 65; (with_reducible refine (cmp_isNaN_string.calls a1 false _ A5.out).mono ?_); rintro e w' ⟨rfl, ⟨nd, rfl⟩⟩))
      go_ret
      exact ⟨by first | rfl | (simp; done) | (simp [*]; done) | exact isEmpty_bne _, by repeat (first | exact Drawn0.refl _ | apply Drawn0.step)⟩
  · replace c4 := Bool.eq_false_iff.mpr c4
    subst c4
    have H1 : (some (Op.bytesLess a0.toList a1.toList)) = some r := by rw [if_neg (show ¬ (false = true) by decide)] at H; exact H
    clear H
    have H := H1
    clear H1
    obtain rfl := Option.some.inj H
    go_enter Try.func51, Try.ntmps51
    go_wp2_with (first | ((with_reducible refine gate_callee (f := 65) rfl ?_); refine goesL_ (some 6) rfl rfl Try.func65 (by kernel_rfl) rfl #[.string a0] rfl (by (try simp only [List.map_toArray, List.map_cons, List.map_nil]); first | done | rfl | (simp only [List.length_drop, List.length_take]; rfl)) ?_; (with_reducible refine (cmp_isNaN_string.calls a0 false _ A3.out).mono ?_); rintro e w' ⟨rfl, ⟨nd, rfl⟩⟩; refine ⟨_, rfl, ?_⟩))
    go_ret
    exact ⟨by first | rfl | (simp; done) | (simp [*]; done) | exact isEmpty_bne _, by repeat (first | exact Drawn0.refl _ | apply Drawn0.step)⟩

/-! ### slices_isNaN_string: function 52 -/
def slices_isNaN_string.f (a0 : ByteArray) : Option (Bool) := some (a0.toList != a0.toList)
set_option maxHeartbeats 8000000 in
set_option maxRecDepth 100000 in
theorem slices_isNaN_string.calls (a0 : ByteArray) (r : Bool) (w : World) (h : slices_isNaN_string.f a0 = some r) :
    Calls Try.prog 52 #[.string a0] w fun e w' => e = .returned (.bool r) ∧ Drawn0 w w' := by
  have H : (some (a0.toList != a0.toList)) = some r := h
  clear h
  obtain rfl := Option.some.inj H
  go_enter Try.func52, Try.ntmps52
  go_wp2
  go_ret
  exact ⟨by first | rfl | (simp; done) | (simp [*]; done) | exact isEmpty_bne _, by repeat (first | exact Drawn0.refl _ | apply Drawn0.step)⟩

end Go.Proofs.Ytajlgbonapfckaa.PExprAsks
