/- PolicyDrops: 'Drop' tells what the reference tells, of any archived files that the law lets in; in plain Lean. -/
import Derived.Test.YtpmaihlmccebhaaPolPolicyDrops
namespace Go.Proofs.Ytpmaihlmccebhaa.PurePolicyDrops
open Go.RowKit Go.Proofs.YtpmaihlmccebhaaW.PrintWords Go.Proofs.Ytpmaihlmccebhaa.PPolicyDrops Go.Proofs.Ytpmaihlmccebhaa.Evs Go.Proofs.Ytpmaihlmccebhaa.PolPolicyDrops
set_option linter.unusedVariables false
set_option linter.unusedSimpArgs false

section
variable {B F age active now : Int}
theorem rd_conv {l : List S36} {i : Nat} (h : i < l.length) : conv (rd_T36 l (i : Int)) = rd_T34 (l.map conv) (i : Int) := by
  simp [rd_T36, rd_T34, List.getD, h]
theorem old_ref {x : S36} (h : 0 ≤ x.f1 ∧ x.f1 ≤ 18446744073709551615) (hn : 0 ≤ now ∧ now ≤ 18446744073709551615) :
    Old age now (conv x) ↔ age > 0 ∧ now > x.f1 ∧ IntKind.u64.wrap (now - x.f1) > age := by
  constructor
  · rintro ⟨h1, h2, h3⟩
    simp only [conv] at h2 h3
    rw [wu64 (by omega) (by omega)]
    omega
  · rintro ⟨h1, h2, h3⟩
    rw [wu64 (by omega) (by omega)] at h3
    exact ⟨h1, by simp only [conv]; omega, h3⟩
theorem wlen {n : Nat} (h : n ≤ 200) : wrap64 ((n : Int) + 1) = (n : Int) + 1 := by rw [w64 (by omega) (by omega)]
theorem enough_go (l : List S36) (hl : Fine (l.map conv)) (ha : 0 ≤ active ∧ active ≤ 1099511627776) (hn : 0 ≤ now ∧ now ≤ 18446744073709551615) :
    ∀ (d i : Nat), d + i = l.length → (∀ j : Nat, j < i → ¬ Old age now (rd_T34 (l.map conv) j)) →
      ∃ b, Ev (fun k => logbookref23_enough.l0 k now l (active + sumB ((l.map conv).take i)) i B F age) b ∧ (b = true ↔ Okay B F age active now (l.map conv) 0)
  | 0, i, hd, hj => by
    have hll : l.length ≤ 200 := by
      have := hl.len
      rwa [List.length_map] at this
    have ht : (l.map conv).take i = l.map conv := List.take_of_length_le (by simp; omega)
    have hno : ∀ x ∈ (l.map conv).drop 0, ¬ Old age now x := by
      intro x hx
      rw [List.drop_zero] at hx
      obtain ⟨p, hp, rfl⟩ := List.getElem_of_mem hx
      have := hj p (by simp at hp; omega)
      have e : rd_T34 (l.map conv) (p : Int) = (l.map conv)[p] := by simp only [rd_T34, List.getD, Int.toNat_natCast, List.getElem?_eq_getElem hp, Option.getD_some]
      rwa [e] at this
    have hw := wlen hll
    have hok : ∀ b : Bool, (b = true ↔ (B ≤ 0 ∨ active + sumB (l.map conv) ≤ B) ∧ (F ≤ 0 ∨ (l.length : Int) + 1 ≤ F)) → (b = true ↔ Okay B F age active now (l.map conv) 0) := by
      intro b hb
      rw [hb]
      unfold Okay
      rw [List.drop_zero, List.length_map]
      rw [List.drop_zero] at hno
      constructor
      · rintro ⟨h1, h2⟩
        exact ⟨hno, h1, by simpa using h2⟩
      · rintro ⟨_, h1, h2⟩
        exact ⟨h1, by simpa using h2⟩
    rw [ht]
    have go : ∀ {b : Bool} {f : Nat → Option Bool}, (∀ k, logbookref23_enough.l0 (k + 1) now l (active + sumB (l.map conv)) i B F age = f k) → Ev f b → Ev (fun k => logbookref23_enough.l0 k now l (active + sumB (l.map conv)) i B F age) b := fun h1 h2 => Ev.step h1 h2
    by_cases c1 : B ≤ 0
    · by_cases c2 : F ≤ 0
      · exact ⟨true, go (fun k => logbookref23_enough.l0.eq_2 _ _ _ _ _ _ _ _) (Ev.neg (not_lt_self hd) (Ev.pos c1 (Ev.pos c2 (Ev.now _)))), hok _ (by simp [c1, c2])⟩
      · refine ⟨_, go (fun k => logbookref23_enough.l0.eq_2 _ _ _ _ _ _ _ _) (Ev.neg (not_lt_self hd) (Ev.pos c1 (Ev.neg c2 (Ev.now _)))), hok _ ?_⟩
        rw [hw]
        simp [c1, c2]
    · by_cases c3 : active + sumB (l.map conv) ≤ B
      · by_cases c2 : F ≤ 0
        · exact ⟨true, go (fun k => logbookref23_enough.l0.eq_2 _ _ _ _ _ _ _ _) (Ev.neg (not_lt_self hd) (Ev.neg c1 (Ev.pos c3 (Ev.pos c2 (Ev.now _))))), hok _ (by simp [c3, c2])⟩
        · refine ⟨_, go (fun k => logbookref23_enough.l0.eq_2 _ _ _ _ _ _ _ _) (Ev.neg (not_lt_self hd) (Ev.neg c1 (Ev.pos c3 (Ev.neg c2 (Ev.now _))))), hok _ ?_⟩
          rw [hw]
          simp [c3, c2]
      · exact ⟨false, go (fun k => logbookref23_enough.l0.eq_2 _ _ _ _ _ _ _ _) (Ev.neg (not_lt_self hd) (Ev.neg c1 (Ev.neg c3 (Ev.now _)))), hok _ (by simp [c1, c3])⟩
  | d + 1, i, hd, hj => by
    have hi : i < l.length := by omega
    have him : i < (l.map conv).length := by rw [List.length_map]; exact hi
    have hll : l.length ≤ 200 := by
      have := hl.len
      rwa [List.length_map] at this
    have c1 := lt_cast hi
    have c0 := nat0 i
    have hrc := rd_conv hi
    have hbx := hl.bytes _ (rd_mem him)
    rw [← hrc] at hbx
    have hor := old_ref (age := age) (now := now) (x := rd_T36 l (i : Int)) hbx.2.2 hn
    have e1 : wrap64 (active + sumB ((l.map conv).take i) + (rd_T36 l (i : Int)).f0) = active + sumB ((l.map conv).take (i + 1)) :=
      wplus (n := (((l.map conv).take (i + 1)).length : Int)) ha (hl.take (i + 1)).sum (Int.ofNat_le.2 (hl.take (i + 1)).len) (by
        rw [sumB_take_succ him, ← hrc]
        rfl)
    by_cases ho : Old age now (conv (rd_T36 l (i : Int)))
    · obtain ⟨h1, h2, h3⟩ := hor.1 ho
      refine ⟨false, Ev.step (fun k => logbookref23_enough.l0.eq_2 _ _ _ _ _ _ _ _) (Ev.pos c1 (Ev.pos c0 (Ev.pos h1 (Ev.pos h2 (Ev.pos h3 (Ev.now _)))))), ?_⟩
      constructor
      · intro h
        cases h
      · intro h
        exact absurd ho (h.1 _ (by rw [List.drop_zero, hrc]; exact rd_mem him))
    · obtain ⟨b, hb, hh⟩ := enough_go l hl ha hn d (i + 1) (by omega) (fun j h => by
        by_cases e : j = i
        · rw [e, ← hrc]; exact ho
        · exact hj j (by omega))
      refine ⟨b, Ev.step (fun k => logbookref23_enough.l0.eq_2 _ _ _ _ _ _ _ _) (Ev.pos c1 (Ev.pos c0 ?_)), hh⟩
      rw [e1, wsucc hi (Nat.le_trans hll (by decide))]
      refine Ev.both (fun h1 => Ev.both (fun h2 => Ev.neg (fun h3 => ho (hor.2 ⟨h1, h2, h3⟩)) hb) (fun _ => hb)) (fun _ => hb)
theorem enough_tells (l : List S36) (hl : Fine (l.map conv)) (ha : 0 ≤ active ∧ active ≤ 1099511627776) (hn : 0 ≤ now ∧ now ≤ 18446744073709551615) (z : Int) :
    ∃ b, Ev (fun k => logbookref23_enough.f k B F age active z now l) b ∧ (b = true ↔ Okay B F age active now (l.map conv) 0) := by
  obtain ⟨b, hb, h⟩ := enough_go (B := B) (F := F) (age := age) l hl ha hn l.length 0 (by omega) (fun j h => absurd h (Nat.not_lt_zero j))
  have e : active + sumB ((l.map conv).take 0) = active := by simp [sumB]
  rw [e] at hb
  exact ⟨b, hb, h⟩
theorem okay_drop {L : List S34} {i : Nat} (h : i ≤ L.length) : Okay B F age active now (L.drop i) 0 ↔ Okay B F age active now L i := by
  unfold Okay
  rw [List.drop_zero, List.length_drop]
  have : ((L.length - i : Nat) : Int) - ((0 : Nat) : Int) + 1 = (L.length : Int) - i + 1 := by omega
  rw [this]
theorem ref_go (l : List S36) (hl : Fine (l.map conv)) (ha : 0 ≤ active ∧ active ≤ 1099511627776) (hn : 0 ≤ now ∧ now ≤ 18446744073709551615) (z : Int) :
    ∀ (d i : Nat), d + i = l.length → (∀ j, j < i → ¬ Okay B F age active now (l.map conv) j) → ∃ r, Ev (fun k => logbookref23_Drop.l0 k now l i B F age active z) r ∧ Least B F age active now (l.map conv) r
  | 0, i, hd, hj => ⟨l.length, Ev.step (fun k => logbookref23_Drop.l0.eq_2 _ _ _ _ _ _ _ _ _) (Ev.neg (not_lt_self hd) (Ev.now _)), ⟨l.length, rfl, by simp, fun h => absurd h (by simp), fun j h => hj j (by omega)⟩⟩
  | d + 1, i, hd, hj => by
    have hi : i < l.length := by omega
    have hll : l.length ≤ 200 := by
      have := hl.len
      rwa [List.length_map] at this
    have c1 := lt_cast hi
    have c0 := nat0 i
    have hm : (l.drop i).map conv = (l.map conv).drop i := by rw [List.map_drop]
    obtain ⟨b, hb, h⟩ := enough_tells (B := B) (F := F) (age := age) (l.drop i) (by rw [hm]; exact hl.drop i) ha hn z
    rw [hm, okay_drop (by simp; omega)] at h
    cases b with
    | true =>
      have hk := h.1 rfl
      exact ⟨i, Ev.step (fun k => logbookref23_Drop.l0.eq_2 _ _ _ _ _ _ _ _ _) (Ev.pos c1 (Ev.pos c0 (Ev.pos (Int.le_of_lt c1) (Ev.bind hb (Ev.pos rfl (Ev.now _)))))), ⟨i, rfl, by simp; omega, fun _ => hk, hj⟩⟩
    | false =>
      have hk : ¬ Okay B F age active now (l.map conv) i := fun hk => by cases h.2 hk
      obtain ⟨r, hr, hle⟩ := ref_go l hl ha hn z d (i + 1) (by omega) (fun j h => by
        by_cases e : j = i
        · rw [e]; exact hk
        · exact hj j (by omega))
      refine ⟨r, Ev.step (fun k => logbookref23_Drop.l0.eq_2 _ _ _ _ _ _ _ _ _) (Ev.pos c1 (Ev.pos c0 (Ev.pos (Int.le_of_lt c1) (Ev.bind hb (Ev.neg (by decide) ?_))))), hle⟩
      rw [wsucc hi (Nat.le_trans hll (by decide))]
      exact hr
end
theorem PolicyDrops (y0 : Int × Int × Int) (active now : Int) (l : List S36) (w0 : (Lit.int .i64 y0.1).wf = true ∧ (Lit.int .i64 y0.2.1).wf = true ∧ (Lit.int .u64 y0.2.2).wf = true) (w1 : (Lit.int .i64 active).wf = true) (w2 : (Lit.int .u64 now).wf = true)
    (w3 : l.length ≤ maxLen ∧ l.length * 16 ≤ 140737488351232 ∧ ∀ x ∈ l, (Lit.int .i64 x.f0).wf = true ∧ (Lit.int .u64 x.f1).wf = true) :
    ∃ k, logbooklaw23_PolicyDrops.f k y0.1 y0.2.1 y0.2.2 active now l = some true := by
  obtain ⟨B, F, age⟩ := y0
  have hg : GoodT l := fun x hx => wf_u64 (w3.2.2 x hx).2
  obtain ⟨r, b, hr, h⟩ := infos_tells l (Nat.le_trans w3.1 (by decide)) hg
  have hB2 := (wf_i64 w0.1).2
  have hn2 := wf_u64 w2
  refine Ev.at (Ev.bind hr ?_)
  have hyes : Ev (fun k => logbooklaw23_PolicyDrops.j0 k active now l r true B F age) true :=
    Ev.step (fun k => logbooklaw23_PolicyDrops.j0.eq_2 _ _ _ _ _ _ _ _ _) (Ev.pos rfl (Ev.bind awake_tells (Ev.now _)))
  cases b with
  | false => exact Ev.neg Bool.false_ne_true hyes
  | true =>
    refine Ev.pos rfl (Ev.both (fun _ => hyes) (fun c1 => ?_))
    by_cases c2 : active > 1099511627776
    · rw [decide_eq_true c2]
      exact hyes
    · rw [decide_eq_false c2]
      obtain ⟨rfl, hf⟩ := h rfl
      have ha : 0 ≤ active ∧ active ≤ 1099511627776 := by omega
      obtain ⟨x, hx, hlx⟩ := drop_tells (B := B) (F := F) (age := age) hf hB2 ha hn2 0
      obtain ⟨y, hy, hly⟩ := ref_go (B := B) (F := F) (age := age) l hf ha hn2 0 l.length 0 (by omega) (fun j h => absurd h (Nat.not_lt_zero j))
      exact Ev.step (fun k => logbooklaw23_PolicyDrops.j0.eq_2 _ _ _ _ _ _ _ _ _) (Ev.neg Bool.false_ne_true (Ev.bindc (a := (B, F, age)) rfl (Ev.bind hx (Ev.bind hy (Ev.pos (hlx.same hly) (Ev.bind awake_tells (Ev.now _)))))))
end Go.Proofs.Ytpmaihlmccebhaa.PurePolicyDrops
