/- Objects as the reference writes and reads them: in plain Lean. -/
import Derived.Test.YtldoaommikclbaaScanDecScanObjects
import Derived.Test.YtldoaommikclbaaStr
import Derived.Test.YtldoaommikclbaaEvs
namespace Go.Proofs.Ytldoaommikclbaa.SBScanObjects
open Go.RowKit Go.Proofs.Ytldoaommikclbaa.PScanObjects Go.Proofs.YtldoaommikclbaaW.PrintWords Go.Proofs.YtldoaommikclbaaW.PrintLast Go.Proofs.YtldoaommikclbaaW.PrintMore Go.Proofs.Ytldoaommikclbaa.Evs Go.Proofs.Ytldoaommikclbaa.Conv
set_option linter.unusedVariables false
set_option linter.unusedSimpArgs false
/-! ### bytes of numbers, as the reference writes them -/
theorem refbytes_go (n : Int) (h0 : 0 ≤ n) (h1 : n ≤ 18446744073709551615) : ∀ (d i : Nat), d + i = 8 → Ev (fun k => logbookref01_Bytes.l0 k (n / 256 ^ i) 8 (leGo i n) (i : Int)) (leGo 8 n)
  | 0, i, hd => by
      obtain rfl : i = 8 := by omega
      exact Ev.step (fun k => logbookref01_Bytes.l0.eq_2 _ _ _ _ _) (Ev.neg (by decide) (Ev.now _))
  | d + 1, i, hd => by
      have ih := refbytes_go n h0 h1 d (i + 1) (by omega)
      have hq := leGo_in i n h0 h1
      have hq2 := leGo_in (i + 1) n h0 h1
      have hl : (leGo i n).length = i := leGo_len i n
      refine Ev.step (fun k => logbookref01_Bytes.l0.eq_2 _ _ _ _ _) (Ev.pos (by omega) (Ev.pos (by omega) (Ev.pos (by omega) ?_)))
      have e1 : Int.tdiv (n / 256 ^ i) 256 = n / 256 ^ (i + 1) := by
        rw [Int.tdiv_eq_ediv_of_nonneg hq.1, leGo_next]
      have e2 : Int.tmod (n / 256 ^ i) 256 % 256 = n / 256 ^ i % 256 := by
        rw [Int.tmod_eq_emod_of_nonneg hq.1]
        omega
      rw [e1, e2, wu64 hq2.1 hq2.2, show wrap64 ((i : Int) + 1) = ((i + 1 : Nat) : Int) by unfold wrap64; omega]
      exact ih
theorem refbytes_tells (n : Int) (h0 : 0 ≤ n) (h1 : n ≤ 18446744073709551615) : Ev (fun k => logbookref01_Bytes.f k n 8) (leGo 8 n) := by
  have h := refbytes_go n h0 h1 8 0 rfl
  rw [show n / 256 ^ 0 = n from by rw [Int.pow_zero, Int.ediv_one]] at h
  exact h
/-- numbers, eight bytes each -/
def bytesOfs : List Int → List Int
  | [] => []
  | n :: r => leGo 8 n ++ bytesOfs r
theorem bytesOfs_length : ∀ l : List Int, (bytesOfs l).length = 8 * l.length
  | [] => rfl
  | n :: r => by
      rw [bytesOfs, List.length_append, leGo_len, bytesOfs_length r, List.length_cons]
      omega
theorem bytesOfs_snoc : ∀ (l : List Int) (x : Int), bytesOfs (l ++ [x]) = bytesOfs l ++ leGo 8 x
  | [], x => by simp [bytesOfs]
  | n :: r, x => by rw [List.cons_append, bytesOfs, bytesOfs_snoc r x, bytesOfs, List.append_assoc]
theorem bytesOfs_wordsAt (B : List Int) (hb : Bytes B) : ∀ (n p : Nat), p + 8 * n ≤ B.length → bytesOfs (wordsAt B p n) = (B.drop p).take (8 * n)
  | 0, p, _ => by simp [wordsAt, bytesOfs]
  | n + 1, p, hp => by
      rw [wordsAt, bytesOfs, bytesOfs_wordsAt B hb n (p + 8) (by omega), leGo_leV (by rw [List.length_take, List.length_drop]; omega) (fun y hy => hb y (List.mem_of_mem_drop (List.mem_of_mem_take hy)))]
      rw [show 8 * (n + 1) = 8 + 8 * n by omega, List.take_add, List.drop_drop]
def wfWords (l : List Int) : Prop := ∀ x ∈ l, 0 ≤ x ∧ x ≤ 18446744073709551615
theorem wordsAt_wf (B : List Int) (hb : Bytes B) : ∀ (n p : Nat), p + 8 * n ≤ B.length → wfWords (wordsAt B p n)
  | 0, p, _ => fun x hx => by cases hx
  | n + 1, p, hp => fun x hx => by
      rcases List.mem_cons.1 hx with rfl | hx
      · exact kd_in hb (by omega)
      · exact wordsAt_wf B hb n (p + 8) (by omega) x hx
def zerosTo8 (l : List Int) : List Int := l ++ List.replicate (al8 l.length - l.length) 0
theorem refpad_go : ∀ (d : Nat) (l : List Int), l.length ≤ 1000000 → al8 l.length - l.length = d → Ev (fun k => logbookref09_Encode.l2 k l) (zerosTo8 l)
  | 0, l, hl, hd => by
      have hm : l.length % 8 = 0 := by unfold al8 at hd; omega
      refine Ev.step (fun k => logbookref09_Encode.l2.eq_2 _ _) (Ev.pos (by omega) (Ev.eq (Ev.now _) ?_))
      unfold zerosTo8
      rw [hd, List.replicate_zero, List.append_nil]
  | d + 1, l, hl, hd => by
      have hm : ¬ l.length % 8 = 0 := by unfold al8 at hd; omega
      have hlen : (l ++ [(0 : Int)]).length = l.length + 1 := by simp
      have hal : al8 (l.length + 1) = al8 l.length := by unfold al8 at hd ⊢; omega
      have ih := refpad_go d (l ++ [0]) (by rw [hlen]; unfold al8 at hd; omega) (by rw [hlen, hal]; omega)
      refine Ev.step (fun k => logbookref09_Encode.l2.eq_2 _ _) (Ev.neg (by omega) (Ev.pos (by omega) (Ev.eq ih ?_)))
      unfold zerosTo8
      rw [hlen, hal, List.append_assoc, show al8 l.length - l.length = (al8 l.length - (l.length + 1)) + 1 by omega, List.replicate_succ]
      rfl
theorem take_snoc (l : List Int) (i : Nat) (h : i < l.length) : l.take (i + 1) = l.take i ++ [rd l (i : Int)] := by
  rw [List.take_succ_eq_append_getElem h]
  congr 2
  unfold rd
  rw [Int.toNat_natCast, List.getD_eq_getElem?_getD, List.getElem?_eq_getElem h]
  rfl
theorem rd_mem (l : List Int) (i : Nat) (h : i < l.length) : rd l (i : Int) ∈ l := by
  unfold rd
  rw [Int.toNat_natCast, List.getD_eq_getElem?_getD, List.getElem?_eq_getElem h]
  exact List.getElem_mem h
theorem refenc_its (kind : Int) (ws raw its : List Int) (h3 : wfWords its) (hl3 : its.length ≤ 10000) (pre : List Int) (hp : pre.length ≤ 100000) :
    ∀ (d i : Nat), d + i = its.length → Ev (fun k => logbookref09_Encode.l1 k (pre ++ bytesOfs (its.take i)) (i : Int) kind ws raw its) (zerosTo8 (pre ++ bytesOfs its))
  | 0, i, hd => by
      obtain rfl : i = its.length := by omega
      rw [List.take_length]
      refine Ev.step (fun k => logbookref09_Encode.l1.eq_2 _ _ _ _ _ _ _) (Ev.neg (by omega) ?_)
      exact refpad_go _ _ (by rw [List.length_append, bytesOfs_length]; omega) rfl
  | d + 1, i, hd => by
      have ih := refenc_its kind ws raw its h3 hl3 pre hp d (i + 1) (by omega)
      have hx := h3 _ (rd_mem its i (by omega))
      have hlen : (pre ++ bytesOfs (its.take i)).length ≤ 180000 := by
        rw [List.length_append, bytesOfs_length, List.length_take]
        omega
      rw [take_snoc its i (by omega), bytesOfs_snoc, ← List.append_assoc] at ih
      refine Ev.step (fun k => logbookref09_Encode.l1.eq_2 _ _ _ _ _ _ _) (Ev.pos (by omega) (Ev.pos (by omega) (Ev.bind (refbytes_tells _ hx.1 hx.2) (Ev.pos (by rw [leGo_len]; omega) ?_))))
      rw [show wrap64 ((i : Int) + 1) = ((i + 1 : Nat) : Int) by unfold wrap64; omega]
      exact ih
theorem refenc_ws (kind : Int) (ws raw its : List Int) (h1 : wfWords ws) (h3 : wfWords its) (hl1 : ws.length ≤ 1000) (hl2 : raw.length ≤ 10000) (hl3 : its.length ≤ 10000) (pre : List Int) (hp : pre.length ≤ 1000) :
    ∀ (d i : Nat), d + i = ws.length → Ev (fun k => logbookref09_Encode.l0 k (pre ++ bytesOfs (ws.take i)) (i : Int) kind ws raw its) (zerosTo8 (((pre ++ bytesOfs ws) ++ raw) ++ bytesOfs its))
  | 0, i, hd => by
      obtain rfl : i = ws.length := by omega
      rw [List.take_length]
      have hlen : (pre ++ bytesOfs ws).length ≤ 9000 := by
        rw [List.length_append, bytesOfs_length]
        omega
      have h := refenc_its kind ws raw its h3 hl3 ((pre ++ bytesOfs ws) ++ raw) (by rw [List.length_append]; omega) its.length 0 rfl
      rw [List.take_zero] at h
      simp only [bytesOfs, List.append_nil] at h
      refine Ev.step (fun k => logbookref09_Encode.l0.eq_2 _ _ _ _ _ _ _) (Ev.neg (by omega) (Ev.pos (by omega) ?_))
      exact h
  | d + 1, i, hd => by
      have ih := refenc_ws kind ws raw its h1 h3 hl1 hl2 hl3 pre hp d (i + 1) (by omega)
      have hx := h1 _ (rd_mem ws i (by omega))
      have hlen : (pre ++ bytesOfs (ws.take i)).length ≤ 9000 := by
        rw [List.length_append, bytesOfs_length, List.length_take]
        omega
      rw [take_snoc ws i (by omega), bytesOfs_snoc, ← List.append_assoc] at ih
      refine Ev.step (fun k => logbookref09_Encode.l0.eq_2 _ _ _ _ _ _ _) (Ev.pos (by omega) (Ev.pos (by omega) (Ev.bind (refbytes_tells _ hx.1 hx.2) (Ev.pos (by rw [leGo_len]; omega) ?_))))
      rw [show wrap64 ((i : Int) + 1) = ((i + 1 : Nat) : Int) by unfold wrap64; omega]
      exact ih
def encSz (ws raw its : List Int) : Nat := 16 + 8 * ws.length + raw.length + 8 * its.length
def encS (kind : Int) (ws raw its : List Int) : List Int :=
  if rightB kind ws.length raw.length its.length = true then zerosTo8 ((((leGo 8 kind ++ leGo 8 (encSz ws raw its : Int)) ++ bytesOfs ws) ++ raw) ++ bytesOfs its) else []
theorem refenc_tells (kind : Int) (ws raw its : List Int) (hk : 0 ≤ kind ∧ kind ≤ 9223372036854775807) (h1 : wfWords ws) (h3 : wfWords its) (hl1 : ws.length ≤ 1000) (hl2 : raw.length ≤ 10000) (hl3 : its.length ≤ 10000) :
    Ev (fun k => logbookref09_Encode.f k kind ws raw its) (encS kind ws raw its) := by
  unfold encS
  refine Ev.bind (refright_tells kind ws raw its) (Ev.both (fun hr => ?_) (fun hr => ?_))
  · rw [if_pos hr, wu64 (x := kind) hk.1 (by omega)]
    refine Ev.bind (refbytes_tells kind hk.1 (by omega)) ?_
    have e : IntKind.u64.wrap (wrap64 (wrap64 (wrap64 (16 + wrap64 (8 * (ws.length : Int))) + (raw.length : Int)) + wrap64 (8 * (its.length : Int)))) = (encSz ws raw its : Int) := by
      unfold encSz
      rw [w64 (x := 8 * (ws.length : Int)) (by omega) (by omega), w64 (x := 8 * (its.length : Int)) (by omega) (by omega), w64 (x := 16 + 8 * (ws.length : Int)) (by omega) (by omega), w64 (x := 16 + 8 * (ws.length : Int) + (raw.length : Int)) (by omega) (by omega), w64 (by omega) (by omega), wu64 (by omega) (by omega)]
      omega
    rw [e]
    refine Ev.bind (refbytes_tells _ (by omega) (by unfold encSz; omega)) (Ev.pos (by rw [leGo_len, leGo_len]; omega) ?_)
    have h := refenc_ws kind ws raw its h1 h3 hl1 hl2 hl3 (leGo 8 kind ++ leGo 8 (encSz ws raw its : Int)) (by rw [List.length_append, leGo_len, leGo_len]; omega) ws.length 0 rfl
    rw [List.take_zero] at h
    simp only [bytesOfs, List.append_nil] at h
    exact h
  · rw [if_neg hr]
    exact Ev.now _
/-! ### an object at a place, as the reference reads it -/
theorem leGo_inj {n m : Nat} (hn : n ≤ 60000) (hm : m ≤ 60000) (h : leGo 8 (n : Int) = leGo 8 (m : Int)) : n = m := by
  simp only [leGo, List.nil_append, List.cons_append, List.cons.injEq] at h
  obtain ⟨h0, h1, _⟩ := h
  rw [Int.pow_zero, Int.ediv_one, Int.ediv_one] at h0
  rw [Int.pow_one] at h1
  omega
theorem take_three (l : List Int) (a b : Nat) : l.take (a + b) = l.take a ++ (l.drop a).take b := List.take_add ..
theorem head_part (B : List Int) (hb : Bytes B) (p n : Nat) (hp : p + 16 + 8 * n ≤ B.length) : (leGo 8 (leV ((B.drop p).take 8)) ++ leGo 8 (leV ((B.drop (p + 8)).take 8))) ++ bytesOfs (wordsAt B (p + 16) n) = (B.drop p).take (16 + 8 * n) := by
  have hW : ∀ q, q + 8 ≤ B.length → leGo 8 (leV ((B.drop q).take 8)) = (B.drop q).take 8 := fun q hq => leGo_leV (by rw [List.length_take, List.length_drop]; omega) (fun y hy => hb y (List.mem_of_mem_drop (List.mem_of_mem_take hy)))
  rw [hW p (by omega), hW (p + 8) (by omega), bytesOfs_wordsAt B hb n (p + 16) (by omega), take_three _ 16 (8 * n), show (16 : Nat) = 8 + 8 from rfl, take_three _ 8 8, List.drop_drop, List.drop_drop]
def tailS (B : List Int) (p : Nat) : Nat := (rawS B p).length + 8 * (itsS B p).length
theorem tail_part (B : List Int) (hb : Bytes B) (p : Nat) (hp : p + 16 + 8 * nS B p + restS B p ≤ B.length) : rawS B p ++ bytesOfs (itsS B p) = (B.drop (p + 16 + 8 * nS B p)).take (tailS B p) ∧ tailS B p = (if kdS B p ≤ 2 then restS B p else 8 * (restS B p / 8)) := by
  unfold tailS rawS itsS
  by_cases hk : kdS B p ≤ 2
  · rw [if_pos hk, if_pos hk, if_pos hk]
    have hl : ((B.drop (p + 16 + 8 * nS B p)).take (restS B p)).length = restS B p := by rw [List.length_take, List.length_drop]; omega
    rw [hl]
    simp [bytesOfs]
  · rw [if_neg hk, if_neg hk, if_neg hk, wordsAt_length]
    rw [bytesOfs_wordsAt B hb (restS B p / 8) (p + 16 + 8 * nS B p) (by omega)]
    simp
theorem enc_eq (B : List Int) (hb : Bytes B) (p : Nat) (h : okHead B p) (hr : rightB (kdS B p) (nS B p) (rawS B p).length (itsS B p).length = true) :
    encS (kdS B p) (wsS B p) (rawS B p) (itsS B p) = zerosTo8 (((leGo 8 (kdS B p) ++ leGo 8 ((16 + 8 * nS B p + tailS B p : Nat) : Int)) ++ bytesOfs (wsS B p)) ++ (B.drop (p + 16 + 8 * nS B p)).take (tailS B p)) := by
  obtain ⟨q1, q2, q3, q4, q5, q6⟩ := h
  have hw := wn_in (kdS B p)
  have hp : p + 16 + 8 * nS B p + restS B p ≤ B.length := by unfold restS sS nS; omega
  unfold encS
  rw [show (wsS B p).length = nS B p from wordsAt_length _ _ _, if_pos hr, List.append_assoc _ (rawS B p), (tail_part B hb p hp).1]
  congr 6
  unfold encSz tailS
  rw [show (wsS B p).length = nS B p from wordsAt_length _ _ _]
  omega
theorem same_iff {x y : List Int} (hx : Bytes x) (hy : Bytes y) : ((strOfNums x).toList == (strOfNums y).toList) = decide (x = y) := by
  by_cases h : x = y
  · subst h
    simp
  · rw [decide_eq_false h]
    refine beq_eq_false_iff_ne.2 (fun e => h ?_)
    have hX : ∀ {l : List Int}, Bytes l → Go.Proofs.Ytldoaommikclbaa.Str.Bytes l := fun hl => hl
    have z := Go.Proofs.Ytldoaommikclbaa.Str.toList_iff.1 e
    rw [Go.Proofs.Ytldoaommikclbaa.Str.bytes_str (hX hx), Go.Proofs.Ytldoaommikclbaa.Str.bytes_str (hX hy)] at z
    exact z
theorem leGo_bytes (k : Nat) (n : Int) : Bytes (leGo k n) := by
  induction k with
  | zero => intro x hx; cases hx
  | succ k ih =>
    intro x hx
    rcases List.mem_append.1 hx with h | h
    · exact ih x h
    · rw [List.mem_singleton.1 h]
      omega
theorem bytesOfs_bytes : ∀ l : List Int, Bytes (bytesOfs l)
  | [] => fun x hx => by cases hx
  | n :: r => fun x hx => (List.mem_append.1 hx).elim (leGo_bytes 8 n x) (bytesOfs_bytes r x)
theorem zeros_bytes {l : List Int} (h : Bytes l) : Bytes (zerosTo8 l) := fun x hx => (List.mem_append.1 hx).elim (h x) (fun g => by rw [(List.mem_replicate.1 g).2]; omega)
theorem al8_le {a b : Nat} (h : a ≤ b) : al8 a ≤ al8 b := by unfold al8; omega
theorem al8_ge (a : Nat) : a ≤ al8 a := by unfold al8; omega
/-- whether what was read, encoded, is what stands there -/
theorem enc_is (B : List Int) (hb : Bytes B) (hl : B.length ≤ 3000) (p : Nat) (h : okHead B p) (hr : rightB (kdS B p) (nS B p) (rawS B p).length (itsS B p).length = true) (E : Nat) (hE : E = 16 + 8 * nS B p + tailS B p) (hfit : p + al8 E ≤ B.length) :
    encS (kdS B p) (wsS B p) (rawS B p) (itsS B p) = (B.drop p).take (al8 E) ↔ okRest B p ∧ al8 E = al8 (sS B p) := by
  have hq := h
  obtain ⟨q1, q2, q3, q4, q5, q6⟩ := h
  have hw := wn_in (kdS B p)
  have hs : sS B p = 16 + 8 * nS B p + restS B p := by unfold restS sS nS; omega
  have hsz : szS B p = ((sS B p : Nat) : Int) := by unfold sS; omega
  have hsl : sS B p ≤ 3000 := by omega
  have hp : p + 16 + 8 * nS B p + restS B p ≤ B.length := by omega
  obtain ⟨_, ht⟩ := tail_part B hb p hp
  have hEs : E ≤ sS B p := by rw [hE, hs, ht]; split <;> omega
  have hEr : E = sS B p ↔ (kdS B p ≤ 2 ∨ restS B p % 8 = 0) := by
    rw [hE, hs, ht]
    split
    · constructor
      · intro; left; assumption
      · intro; rfl
    · omega
  have hhead := head_part B hb p (nS B p) (by omega)
  have hX : ∀ s' : Int, s' = szS B p → (((leGo 8 (kdS B p) ++ leGo 8 s') ++ bytesOfs (wsS B p)) ++ (B.drop (p + 16 + 8 * nS B p)).take (tailS B p)) = (B.drop p).take (16 + 8 * nS B p + tailS B p) := by
    intro s' e
    rw [e, take_three _ (16 + 8 * nS B p) (tailS B p), List.drop_drop, show p + (16 + 8 * nS B p) = p + 16 + 8 * nS B p by omega]
    congr 1
  have hlenX : (((leGo 8 (kdS B p) ++ leGo 8 ((16 + 8 * nS B p + tailS B p : Nat) : Int)) ++ bytesOfs (wsS B p)) ++ (B.drop (p + 16 + 8 * nS B p)).take (tailS B p)).length = E := by
    rw [List.length_append, List.length_append, List.length_append, leGo_len, leGo_len, bytesOfs_length, show (wsS B p).length = nS B p from wordsAt_length _ _ _, List.length_take, List.length_drop]
    have := al8_ge E
    omega
  rw [enc_eq B hb p hq hr]
  unfold zerosTo8
  rw [hlenX]
  have hsplit : (B.drop p).take (al8 E) = (B.drop p).take E ++ (B.drop (p + E)).take (al8 E - E) := by
    have := al8_ge E
    rw [show al8 E = E + (al8 E - E) by omega, take_three _ E (al8 E - E), List.drop_drop, show E + (al8 E - E) - E = al8 E - E by omega]
  have hlenB : ((B.drop p).take E).length = E := by
    have := al8_ge E
    rw [List.length_take, List.length_drop]
    omega
  constructor
  · intro e
    rw [hsplit] at e
    have e1 := List.append_inj e (by rw [hlenX, hlenB])
    -- the size's word
    have e2 := congrArg (fun l => (l.drop 8).take 8) e1.1
    have hL : ((((leGo 8 (kdS B p) ++ leGo 8 ((16 + 8 * nS B p + tailS B p : Nat) : Int)) ++ bytesOfs (wsS B p)) ++ (B.drop (p + 16 + 8 * nS B p)).take (tailS B p)).drop 8).take 8 = leGo 8 ((16 + 8 * nS B p + tailS B p : Nat) : Int) := by
      rw [List.append_assoc, List.append_assoc, List.drop_append_of_le_length (by rw [leGo_len]; exact Nat.le_refl _), List.drop_of_length_le (by rw [leGo_len]; exact Nat.le_refl _), List.nil_append, List.take_append_of_le_length (by rw [leGo_len]; exact Nat.le_refl _), List.take_of_length_le (by rw [leGo_len]; exact Nat.le_refl _)]
    have hRr : (((B.drop p).take E).drop 8).take 8 = (B.drop (p + 8)).take 8 := by
      rw [List.drop_take, List.take_take, List.drop_drop, show min 8 (E - 8) = 8 by omega]
    rw [hL, hRr] at e2
    have e3 : leGo 8 ((16 + 8 * nS B p + tailS B p : Nat) : Int) = leGo 8 ((sS B p : Nat) : Int) := by
      rw [e2, ← hsz]
      exact (leGo_leV (by rw [List.length_take, List.length_drop]; omega) (fun y hy => hb y (List.mem_of_mem_drop (List.mem_of_mem_take hy)))).symm
    have e4 : E = sS B p := by rw [hE]; exact leGo_inj (by omega) (by omega) e3
    refine ⟨⟨by rw [← e4]; exact hfit, hr, hEr.1 e4, ?_⟩, by rw [e4]⟩
    intro x hx
    rw [← e4, ← e1.2] at hx
    exact (List.mem_replicate.1 hx).2
  · rintro ⟨⟨o1, o2, o3, o4⟩, _⟩
    have e4 : E = sS B p := hEr.2 o3
    rw [hsplit, hX _ (by rw [hsz, ← e4, hE]), ← hE]
    congr 1
    rw [e4]
    refine (List.eq_replicate_iff.2 ⟨?_, o4⟩).symm
    have := al8_ge (sS B p)
    rw [List.length_take, List.length_drop]
    omega
theorem encS_bytes (B : List Int) (hb : Bytes B) (p : Nat) : Bytes (encS (kdS B p) (wsS B p) (rawS B p) (itsS B p)) := by
  have hraw : Bytes (rawS B p) := by
    unfold rawS
    split
    · exact fun y hy => hb y (List.mem_of_mem_drop (List.mem_of_mem_take hy))
    · exact fun y hy => by cases hy
  unfold encS
  split
  · refine zeros_bytes (fun x hx => ?_)
    rcases List.mem_append.1 hx with hx | hx
    · rcases List.mem_append.1 hx with hx | hx
      · rcases List.mem_append.1 hx with hx | hx
        · rcases List.mem_append.1 hx with hx | hx
          · exact leGo_bytes _ _ x hx
          · exact leGo_bytes _ _ x hx
        · exact bytesOfs_bytes _ x hx
      · exact hraw x hx
    · exact bytesOfs_bytes _ x hx
  · exact fun x hx => by cases hx
theorem refj4_tells (B : List Int) (hb : Bytes B) (hl : B.length ≤ 3000) (p : Nat) (h : okHead B p) : Ev (fun k => logbookref09_Decode.j4 k B (p : Int) (kdS B p) (wsS B p) (rawS B p) (itsS B p)) (decS B (p : Int)) := by
  have hq := h
  obtain ⟨q1, q2, q3, q4, q5, q6⟩ := h
  have hw := wn_in (kdS B p)
  have hs : sS B p = 16 + 8 * nS B p + restS B p := by unfold restS sS nS; omega
  have hsz : szS B p = ((sS B p : Nat) : Int) := by unfold sS; omega
  have hp : p + 16 + 8 * nS B p + restS B p ≤ B.length := by omega
  have hn5 : nS B p ≤ 5 := by unfold nS; omega
  obtain ⟨_, ht⟩ := tail_part B hb p hp
  have htl : tailS B p ≤ restS B p := by rw [ht]; split <;> omega
  have hwl : (wsS B p).length = nS B p := wordsAt_length _ _ _
  have hrl : (rawS B p).length ≤ 3000 := by unfold tailS at htl; omega
  have hil : (itsS B p).length ≤ 3000 := by unfold tailS at htl; omega
  have hwf1 : wfWords (wsS B p) := wordsAt_wf B hb _ _ (by omega)
  have hwf3 : wfWords (itsS B p) := by
    unfold itsS
    split
    · exact fun x hx => by cases hx
    · exact wordsAt_wf B hb _ _ (by omega)
  refine Ev.step (fun k => logbookref09_Decode.j4.eq_2 _ _ _ _ _ _ _) (Ev.bind (refenc_tells _ _ _ _ (by omega) hwf1 hwf3 (by omega) (by omega) (by omega)) ?_)
  by_cases hr : rightB (kdS B p) (nS B p) (rawS B p).length (itsS B p).length = true
  case neg =>
    have e : encS (kdS B p) (wsS B p) (rawS B p) (itsS B p) = [] := by
      unfold encS
      rw [hwl, if_neg hr]
    rw [e, decS_noRest (fun g => hr g.2.1)]
    exact Ev.pos rfl (Ev.now _)
  have hlen : (encS (kdS B p) (wsS B p) (rawS B p) (itsS B p)).length = al8 (16 + 8 * nS B p + tailS B p) := by
    rw [enc_eq B hb p hq hr]
    unfold zerosTo8
    have hX : (((leGo 8 (kdS B p) ++ leGo 8 ((16 + 8 * nS B p + tailS B p : Nat) : Int)) ++ bytesOfs (wsS B p)) ++ (B.drop (p + 16 + 8 * nS B p)).take (tailS B p)).length = 16 + 8 * nS B p + tailS B p := by
      rw [List.length_append, List.length_append, List.length_append, leGo_len, leGo_len, bytesOfs_length, hwl, List.length_take, List.length_drop]
      omega
    rw [List.length_append, List.length_replicate, hX]
    have := al8_ge (16 + 8 * nS B p + tailS B p)
    omega
  generalize hE : 16 + 8 * nS B p + tailS B p = E at hlen
  have hge := al8_ge E
  rw [hlen]
  refine Ev.neg (by omega) ?_
  rw [w64 (x := (B.length : Int) - (p : Int)) (by omega) (by omega)]
  by_cases hfit : p + al8 E ≤ B.length
  case neg =>
    have hno : ¬ okRest B p := fun g => by
      have := al8_le (show E ≤ sS B p by omega)
      have := g.1
      omega
    rw [decS_noRest hno]
    exact Ev.pos (by omega) (Ev.now _)
  refine Ev.neg (by omega) ?_
  rw [w64 (x := (p : Int) + (al8 E : Int)) (by omega) (by omega)]
  refine Ev.pos (by omega) (Ev.pos (by omega) (Ev.pos (by omega) ?_))
  have hsl : (B.take ((p : Int) + (al8 E : Int)).toNat).drop ((p : Int)).toNat = (B.drop p).take (al8 E) := by
    rw [Int.toNat_natCast, show ((p : Int) + (al8 E : Int)).toNat = p + al8 E by omega, List.drop_take, show p + al8 E - p = al8 E by omega]
  rw [hsl]
  have hsame : logbookref01_Same.f (encS (kdS B p) (wsS B p) (rawS B p) (itsS B p)) ((B.drop p).take (al8 E)) = some (decide (encS (kdS B p) (wsS B p) (rawS B p) (itsS B p) = (B.drop p).take (al8 E))) := by
    unfold logbookref01_Same.f
    rw [same_iff (encS_bytes B hb p) (fun y hy => hb y (List.mem_of_mem_drop (List.mem_of_mem_take hy)))]
  refine Ev.bindc hsame ?_
  have hiff := enc_is B hb hl p hq hr E hE.symm hfit
  by_cases he : encS (kdS B p) (wsS B p) (rawS B p) (itsS B p) = (B.drop p).take (al8 E)
  · have e : decS B (p : Int) = (kdS B p, wsS B p, rawS B p, itsS B p, ((p + al8 (sS B p) : Nat) : Int), true) := by rw [decS_nat, if_pos ⟨hq, (hiff.1 he).1⟩]
    rw [decide_eq_true he, e, ← (hiff.1 he).2]
    exact Ev.pos rfl (Ev.eq (Ev.now _) (by rw [show ((p + al8 E : Nat) : Int) = (p : Int) + (al8 E : Int) by omega]))
  · rw [decide_eq_false he]
    have hno : ¬ okRest B p := fun g => he (hiff.2 ⟨g, by
      have hEs : E = sS B p := by
        rw [← hE, hs, ht]
        have := g.2.2.1
        split <;> omega
      rw [hEs]⟩)
    rw [decS_noRest hno]
    exact Ev.neg (by decide) (Ev.now _)
theorem wordsAt_snoc (B : List Int) : ∀ (n p : Nat), wordsAt B p (n + 1) = wordsAt B p n ++ [leV ((B.drop (p + 8 * n)).take 8)]
  | 0, p => rfl
  | n + 1, p => by
      rw [wordsAt, wordsAt_snoc B n (p + 8), wordsAt, List.cons_append, show p + 8 + 8 * n = p + 8 * (n + 1) by omega]
theorem refits_go (B : List Int) (hb : Bytes B) (hl : B.length ≤ 3000) (p f : Nat) (kind kd : Int) (hk : kind > 2) (ws raw : List Int) (rest : Nat) (hf : f + rest ≤ B.length) (R : DecT) (hj : Ev (fun k => logbookref09_Decode.j4 k B (p : Int) kd ws raw (wordsAt B f (rest / 8))) R) :
    ∀ (d i : Nat), d + i = rest / 8 → Ev (fun k => logbookref09_Decode.l1 k B (p : Int) kind ((f + 8 * i : Nat) : Int) ((f + rest : Nat) : Int) kd ws raw (wordsAt B f i)) R
  | 0, i, hd => by
      obtain rfl : i = rest / 8 := by omega
      refine Ev.step (fun k => logbookref09_Decode.l1.eq_2 _ _ _ _ _ _ _ _ _ _) (Ev.pos hk (Ev.neg ?_ hj))
      rw [w64 (by omega) (by omega)]
      omega
  | d + 1, i, hd => by
      have ih := refits_go B hb hl p f kind kd hk ws raw rest hf R hj d (i + 1) (by omega)
      rw [wordsAt_snoc] at ih
      have hg := refget_tells B ((f + 8 * i : Nat) : Int) hb (by omega) (by omega)
      rw [g8_at (by omega)] at hg
      refine Ev.step (fun k => logbookref09_Decode.l1.eq_2 _ _ _ _ _ _ _ _ _ _) (Ev.pos hk (Ev.pos ?_ (Ev.bind hg (Ev.pos (by rw [wordsAt_length]; omega) ?_))))
      · rw [w64 (by omega) (by omega)]
        omega
      · rw [show wrap64 (((f + 8 * i : Nat) : Int) + 8) = ((f + 8 * (i + 1) : Nat) : Int) by unfold wrap64; omega]
        exact ih
theorem refrest_tells (B : List Int) (hb : Bytes B) (hl : B.length ≤ 3000) (p : Nat) (h : okHead B p) (k0 : DecT) (hk0 : k0 = decS B (p : Int)) :
    Ev (fun k => logbookref09_Decode.l0 k B (p : Int) (kdS B p) (szS B p) (wn (kdS B p)) (nS B p : Int) (kdS B p) (wsS B p)) k0 := by
  subst hk0
  have hq := h
  obtain ⟨q1, q2, q3, q4, q5, q6⟩ := h
  have hw := wn_in (kdS B p)
  have hn : wn (kdS B p) = (nS B p : Int) := by unfold nS; omega
  have hs : sS B p = 16 + 8 * nS B p + restS B p := by unfold restS sS; omega
  have hsz : szS B p = ((sS B p : Nat) : Int) := by unfold sS; omega
  have hj := refj4_tells B hb hl p hq
  have e1 : wrap64 (wrap64 ((p : Int) + 16) + wrap64 (8 * (nS B p : Int))) = ((p + 16 + 8 * nS B p : Nat) : Int) := by
    rw [w64 (x := (p : Int) + 16) (by omega) (by omega), w64 (x := 8 * (nS B p : Int)) (by omega) (by omega), w64 (by omega) (by omega)]
    omega
  have e2 : wrap64 ((p : Int) + wrap64 (szS B p)) = ((p + 16 + 8 * nS B p + restS B p : Nat) : Int) := by
    rw [hsz, w64 (x := ((sS B p : Nat) : Int)) (by omega) (by omega), w64 (by omega) (by omega)]
    omega
  rw [hn]
  refine Ev.step (fun k => logbookref09_Decode.l0.eq_2 _ _ _ _ _ _ _ _ _) (Ev.neg (by omega) ?_)
  rw [e1, e2]
  by_cases hk : kdS B p ≤ 2
  · refine Ev.pos (by omega) (Ev.pos (by omega) (Ev.pos (by omega) (Ev.pos (by omega) ?_)))
    have hsl : (B.take (((p + 16 + 8 * nS B p + restS B p : Nat) : Int)).toNat).drop (((p + 16 + 8 * nS B p : Nat) : Int)).toNat = rawS B p := by
      rw [Int.toNat_natCast, Int.toNat_natCast, List.drop_take]
      unfold rawS
      rw [if_pos hk, show p + 16 + 8 * nS B p + restS B p - (p + 16 + 8 * nS B p) = restS B p by omega]
    rw [hsl, List.nil_append]
    have hits : itsS B p = [] := by unfold itsS; rw [if_pos hk]
    rw [hits] at hj
    have hrl : (rawS B p).length ≤ 3000 := by
      unfold rawS
      rw [if_pos hk, List.length_take]
      omega
    refine Ev.pos (by simp; omega) (Ev.step (fun k => logbookref09_Decode.j2.eq_2 _ _ _ _ _ _ _ _ _) (Ev.step (fun k => logbookref09_Decode.l1.eq_2 _ _ _ _ _ _ _ _ _ _) (Ev.neg (by omega) hj)))
  · refine Ev.neg (by omega) (Ev.step (fun k => logbookref09_Decode.j2.eq_2 _ _ _ _ _ _ _ _ _) ?_)
    have hraw : rawS B p = [] := by unfold rawS; rw [if_neg hk]
    have hits : itsS B p = wordsAt B (p + 16 + 8 * nS B p) (restS B p / 8) := by unfold itsS; rw [if_neg hk]
    rw [hraw, hits] at hj
    exact refits_go B hb hl p (p + 16 + 8 * nS B p) (kdS B p) (kdS B p) (by omega) (wsS B p) [] (restS B p) (by omega) _ hj (restS B p / 8) 0 rfl
theorem refwords_go (B : List Int) (hb : Bytes B) (hl : B.length ≤ 3000) (p : Nat) (h : okHead B p) : ∀ (d i : Nat), d + i = nS B p → Ev (fun k => logbookref09_Decode.l0 k B (p : Int) (kdS B p) (szS B p) (wn (kdS B p)) (i : Int) (kdS B p) (wordsAt B (p + 16) i)) (decS B (p : Int))
  | 0, i, hd => by
      obtain rfl : i = nS B p := by omega
      exact refrest_tells B hb hl p h _ rfl
  | d + 1, i, hd => by
      have ih := refwords_go B hb hl p h d (i + 1) (by omega)
      obtain ⟨q1, q2, q3, q4, q5, q6⟩ := h
      have hw := wn_in (kdS B p)
      have hn : wn (kdS B p) = (nS B p : Int) := by unfold nS; omega
      rw [wordsAt_snoc] at ih
      have hg := refget_tells B ((p + 16 + 8 * i : Nat) : Int) hb (by omega) (by omega)
      rw [g8_at (by omega)] at hg
      have e1 : wrap64 (wrap64 ((p : Int) + 16) + wrap64 (8 * (i : Int))) = ((p + 16 + 8 * i : Nat) : Int) := by
        rw [w64 (x := (p : Int) + 16) (by omega) (by omega), w64 (x := 8 * (i : Int)) (by omega) (by omega), w64 (by omega) (by omega)]
        omega
      refine Ev.step (fun k => logbookref09_Decode.l0.eq_2 _ _ _ _ _ _ _ _ _) (Ev.pos (by omega) ?_)
      rw [e1]
      refine Ev.bind hg (Ev.pos (by rw [wordsAt_length]; omega) ?_)
      rw [show wrap64 ((i : Int) + 1) = ((i + 1 : Nat) : Int) by unfold wrap64; omega]
      exact ih
theorem refdec_tells (B : List Int) (a : Int) (hb : Bytes B) (hl : B.length ≤ 3000) (ha : -9223372036854775808 ≤ a ∧ a ≤ 9223372036854775807) : Ev (fun k => logbookref09_Decode.f k B a) (decS B a) := by
  have hbad : ∀ x y, Ev (fun k => logbookref09_Decode.j0 k B a x y true) badD := fun x y => Ev.step (fun k => logbookref09_Decode.j0.eq_2 _ _ _ _ _ _) (Ev.pos rfl (Ev.now _))
  have hwr : -9223372036854775808 ≤ wrap64 (a + 8) ∧ wrap64 (a + 8) ≤ 9223372036854775807 := by unfold wrap64; omega
  refine Ev.bind (refget_tells B a hb (by omega) ha) (Ev.bind (refget_tells B (wrap64 (a + 8)) hb (by omega) hwr) ?_)
  by_cases h8 : 0 ≤ a ∧ a + 8 ≤ (B.length : Int)
  case neg =>
    have e : decS B a = badD := if_neg (fun g => h8 ⟨g.1, by have := g.2.1.1; omega⟩)
    rw [g8_no h8, e]
    exact Ev.neg (by decide) (hbad _ _)
  obtain ⟨p, rfl⟩ := Int.eq_ofNat_of_zero_le h8.1
  have hk := kd_in hb (p := p) (by omega)
  rw [g8_at (by omega), w64 (x := (p : Int) + 8) (by omega) (by omega)]
  refine Ev.pos rfl ?_
  by_cases h16 : p + 16 ≤ B.length
  case neg =>
    rw [g8_no (by omega), decS_noHead (fun g => h16 g.1)]
    exact Ev.neg (by decide) (hbad _ _)
  rw [show (p : Int) + 8 = ((p + 8 : Nat) : Int) by omega, g8_at (by omega)]
  have hsz := kd_in hb (p := p + 8) (by omega)
  refine Ev.pos rfl ?_
  by_cases hm : p % 8 = 0
  case neg =>
    rw [decS_noHead (fun g => hm g.2.1)]
    exact Ev.neg (fun g => hm (tmod8.1 g)) (hbad _ _)
  refine Ev.pos (tmod8.2 hm) ?_
  dsimp only
  have ek : leV ((B.drop p).take 8) = kdS B p := rfl
  have es : leV ((B.drop (p + 8)).take 8) = szS B p := rfl
  rw [ek, es]
  have hk2 : 0 ≤ kdS B p ∧ kdS B p ≤ 18446744073709551615 := hk
  have hs2 : 0 ≤ szS B p ∧ szS B p ≤ 18446744073709551615 := hsz
  by_cases h1 : kdS B p < 1
  · rw [decS_noHead (fun g => by have := g.2.2.1; omega)]
    exact Ev.pos h1 (hbad _ _)
  refine Ev.neg h1 ?_
  by_cases h4 : kdS B p > 4
  · rw [decS_noHead (fun g => by have := g.2.2.2.1; omega)]
    exact Ev.pos h4 (hbad _ _)
  refine Ev.neg h4 ?_
  rw [w64 (x := (B.length : Int) - (p : Int)) (by omega) (by omega), wu64 (x := (B.length : Int) - (p : Int)) (by omega) (by omega)]
  by_cases h5 : szS B p > (B.length : Int) - (p : Int)
  · rw [decS_noHead (fun g => by have := g.2.2.2.2.2; omega), decide_eq_true h5]
    exact hbad _ _
  rw [decide_eq_false h5]
  have hw := wn_in (kdS B p)
  refine Ev.step (fun k => logbookref09_Decode.j0.eq_2 _ _ _ _ _ _) (Ev.neg (by decide) ?_)
  rw [w64 (x := kdS B p) (by omega) (by omega), w64 (x := szS B p) (by omega) (by omega)]
  refine Ev.bind (refwords_tells _) ?_
  rw [w64 (x := 8 * wn (kdS B p)) (by omega) (by omega), w64 (x := 16 + 8 * wn (kdS B p)) (by omega) (by omega)]
  by_cases h6 : szS B p < 16 + 8 * wn (kdS B p)
  · rw [decS_noHead (fun g => by have := g.2.2.2.2.1; omega)]
    exact Ev.pos h6 (Ev.now _)
  refine Ev.neg h6 ?_
  exact refwords_go B hb hl p ⟨h16, hm, by omega, by omega, by omega, by omega⟩ (nS B p) 0 rfl
end Go.Proofs.Ytldoaommikclbaa.SBScanObjects
