/- Entries, written one behind the other, and read again: in plain Lean. -/
import Derived.Test.YtbbegchdlkmebaaDoorPExportBackx11
import Derived.Test.YtbbegchdlkmebaaDoorBackA
import Derived.Test.YtbbegchdlkmebaaDoorHex
import Derived.Test.YtbbegchdlkmebaaDoorCut
import Derived.Test.YtbbegchdlkmebaaDoorDec
import Derived.Test.YtbbegchdlkmebaaDoorStr
import Derived.Test.YtbbegchdlkmebaaDoorEvs
namespace Go.Proofs.YtbbegchdlkmebaaDoor.Pure
open Go.RowKit Go.Proofs.YtbbegchdlkmebaaDoor.PExportBack Go.Proofs.YtbbegchdlkmebaaDoorW.PrintWords Go.Proofs.YtbbegchdlkmebaaDoorW.PrintLast Go.Proofs.YtbbegchdlkmebaaDoorW.PrintMore Go.Proofs.YtbbegchdlkmebaaDoor.Evs Go.Proofs.YtbbegchdlkmebaaDoor.Str Go.Proofs.YtbbegchdlkmebaaDoor.Conv Go.Proofs.YtbbegchdlkmebaaDoor.Hex Go.Proofs.YtbbegchdlkmebaaDoor.Cut Go.Proofs.YtbbegchdlkmebaaDoor.Dec
set_option linter.unusedVariables false
set_option linter.unusedSimpArgs false
namespace BC
open Cu EW RB RP BA BB
/-! ### the law -/
theorem awake_tells : Ev (fun k => logbooklaw32_awake.f k) true := by
  have hr : export_Item.f (⟨#[65, 61, 49]⟩ : ByteArray) = some (⟨#[65, 61, 49, 10]⟩ : ByteArray) := by decide +kernel
  refine Ev.bindc hr (Ev.pos (by decide +kernel) (Ev.bind (Num.decimal_tells 120 (by decide) (by decide)) (Ev.eq (Ev.now _) ?_)))
  decide +kernel
theorem at_map {α β : Type} (g : α → β) (z : β) (l : List α) (i : Nat) (h : i < l.length) : (l.map g).getD ((i : Int)).toNat z = g l[i] := by
  rw [Int.toNat_natCast, List.getD_eq_getElem?_getD, List.getElem?_map, List.getElem?_eq_getElem h]
  rfl
theorem pfx_iff (x : ByteArray) : (x.extract 0 2).toList = ([95, 95] : List UInt8) ↔ ∃ t, bytesOf x = 95 :: 95 :: t := by
  rw [toL, bytesOf_extract, List.drop_zero]
  constructor
  · intro h
    refine ⟨(bytesOf x).drop 2, ?_⟩
    rw [← List.take_append_drop 2 (bytesOf x), h]
    rfl
  · rintro ⟨t, h⟩
    rw [h]
    rfl
/-- What stands behind the second loop. -/
def aft (k : Nat) (x0 : List S23) (x1 : List (List ByteArray)) (x5 : ByteArray) (x6 : List S23) (x7 : List (List ByteArray)) (x8 : Int) (x9 : List ByteArray) (x10 : Int) : Option Bool :=
  if x10 = 0 then (if 0 ≤ x8 then (if x8 < (x0.length : Int) then ((logbooklaw32_of.f ((rd_T23 x0 x8).f0) ((rd_T23 x0 x8).f1) ((rd_T23 x0 x8).f2) ((rd_T23 x0 x8).f3) ((rd_T23 x0 x8).f4) ((rd_T23 x0 x8).f5)).bind fun bt233 => ((export_Entry.f k bt233.1 bt233.2.1 bt233.2.2.1 bt233.2.2.2.1 bt233.2.2.2.2.1 bt233.2.2.2.2.2 x9).bind fun t239 => (if x5.size + t239.size ≤ 9223372036854775807 then (if x6.length < 2932031007402 then (if x7.length < 5864062014805 then (logbooklaw32_ExportBack.l0 k x0 x1 (x5 ++ t239) (x6 ++ [(⟨(rd_T23 x0 x8).f0, (rd_T23 x0 x8).f1, (rd_T23 x0 x8).f2, (rd_T23 x0 x8).f3, (rd_T23 x0 x8).f4, (rd_T23 x0 x8).f5⟩ : S23)]) (x7 ++ [x9]) (wrap64 (x8 + 1))) else (none)) else (none)) else (none)))) else (none)) else (none)) else (logbooklaw32_ExportBack.l0 k x0 x1 x5 x6 x7 (wrap64 (x8 + 1)))
theorem l1_go (x0 : List S23) (x1 : List (List ByteArray)) (x5 : ByteArray) (x6 : List S23) (x7 : List (List ByteArray)) (x8 : Int) (o : List ByteArray) (ho : o.length ≤ 64) : ∀ (d i : Nat) (c : Int), d + i = o.length → ∃ c' : Int, (c' = 0 → c = 0 ∧ ∀ x ∈ o.drop i, ¬ ∃ t, bytesOf x = 95 :: 95 :: t) ∧
    ∀ res, Ev (fun k => aft k x0 x1 x5 x6 x7 x8 o c') res → Ev (fun k => logbooklaw32_ExportBack.l1 k x0 x1 x5 x6 x7 x8 o c (i : Int)) res
  | 0, i, c, hd => by
    refine ⟨c, fun h => ⟨h, fun x hx => ?_⟩, fun res h => Ev.step (fun k => logbooklaw32_ExportBack.l1.eq_2 _ _ _ _ _ _ _ _ _ _) (Ev.neg (by omega) h)⟩
    rw [List.drop_of_length_le (by omega)] at hx
    exact absurd hx (by simp)
  | d + 1, i, c, hd => by
    have hi : i < o.length := by omega
    have hg : rdOf ByteArray.empty o (i : Int) = o[i] := by
      unfold rdOf
      rw [Int.toNat_natCast, List.getD_eq_getElem?_getD, List.getElem?_eq_getElem hi]
      rfl
    have hdr : o.drop i = o[i] :: o.drop (i + 1) := List.drop_eq_getElem_cons hi
    generalize o[i] = x at hg hdr
    have hw := wi1 (i := i) (n := 64) (by omega) (by decide)
    by_cases hp : ∃ t, bytesOf x = 95 :: 95 :: t
    · have hz : 2 ≤ x.size := by
        obtain ⟨t, h⟩ := hp
        have e := congrArg List.length h
        rw [bytesOf_length, List.length_cons, List.length_cons] at e
        omega
      obtain ⟨c', h1, h2⟩ := l1_go x0 x1 x5 x6 x7 x8 o ho d (i + 1) 1 (by omega)
      refine ⟨c', fun h => absurd (h1 h).1 (by decide), fun res h => Ev.step (fun k => logbooklaw32_ExportBack.l1.eq_2 _ _ _ _ _ _ _ _ _ _) (Ev.pos (by omega) (Ev.pos (by omega) ?_))⟩
      rw [hg, hw]
      exact Ev.pos (by omega) (Ev.pos (by decide) (Ev.pos (by omega) (Ev.pos ((pfx_iff x).2 hp) (h2 res h))))
    · obtain ⟨c', h1, h2⟩ := l1_go x0 x1 x5 x6 x7 x8 o ho d (i + 1) c (by omega)
      refine ⟨c', fun h => ⟨(h1 h).1, fun y hy => ?_⟩, fun res h => Ev.step (fun k => logbooklaw32_ExportBack.l1.eq_2 _ _ _ _ _ _ _ _ _ _) (Ev.pos (by omega) (Ev.pos (by omega) ?_))⟩
      · rw [hdr] at hy
        rcases List.mem_cons.1 hy with rfl | hy
        · exact hp
        · exact (h1 h).2 y hy
      · rw [hg, hw]
        exact Ev.both (fun hz => Ev.pos (by decide) (Ev.pos (by omega) (Ev.neg (fun g => hp ((pfx_iff x).1 g)) (h2 res h)))) (fun hz => h2 res h)
theorem l2_go (s : ByteArray) (es : List Ent) (hok : ∀ e ∈ es, EntOk e) (hes : es.length ≤ 8) (hb : bytesOf s = ents es []) (hs : s.size ≤ 900000) : ∀ (d i : Nat), d + i = es.length → Ev (fun k => logbooklaw32_ExportBack.l2 k s (es.map Ent.n) (es.map toI) (es.map toC) (es.map toI) (i : Int)) true
  | 0, i, hd => by
    have hb2 : bytesOf (s ++ (⟨#[120]⟩ : ByteArray)) = ents es [120] := by
      rw [bytesOf_append, hb, ents_app es [120]]
      rfl
    have h := all_no es [] [] (s ++ (⟨#[120]⟩ : ByteArray)) hok hb2 (by rw [ByteArray.size_append]; show s.size + 1 ≤ _; omega) (by simp; omega) (by simp; omega)
    exact Ev.step (fun k => logbooklaw32_ExportBack.l2.eq_2 _ _ _ _ _ _ _) (Ev.neg (by rw [List.length_map]; omega) (Ev.pos (by omega) (Ev.bind h (Ev.neg (by simp) (Ev.bind awake_tells (Ev.now _))))))
  | d + 1, i, hd => by
    have hi : i < es.length := by omega
    have ih := l2_go s es hok hes hb hs d (i + 1) (by omega)
    have r1 : rd_T23 (es.map Ent.n) (i : Int) = es[i].n := at_map _ _ es i hi
    have r2 : rd_T30 (es.map toC) (i : Int) = toC es[i] := at_map _ _ es i hi
    have r3 : rd_L6 (es.map toI) (i : Int) = toI es[i] := at_map _ _ es i hi
    have hw := wi1 (i := i) (n := 8) (by omega) (by decide)
    have hlen : (toI es[i]).length ≤ 1000000 := by
      have := (hok _ (List.getElem_mem hi)).2.2.2
      unfold toI
      rw [List.length_map]
      omega
    refine Ev.step (fun k => logbooklaw32_ExportBack.l2.eq_2 _ _ _ _ _ _ _) (Ev.pos (by rw [List.length_map]; omega) (Ev.pos (by omega) (Ev.pos (by rw [List.length_map]; omega) ?_)))
    rw [r1, r2, r3, hw]
    exact Ev.bindc rfl (Ev.neg (by unfold toC; simp) (Ev.pos (by rw [List.length_map]; omega) (Ev.pos (by rw [List.length_map]; omega) (Ev.bind (texts_tells _ hlen) (Ev.pos rfl ih)))))
theorem fin (x0 : List S23) (x1 : List (List ByteArray)) (s : ByteArray) (es : List Ent) (hok : ∀ e ∈ es, EntOk e) (hes : es.length ≤ 8) (hb : bytesOf s = ents es []) (hs : s.size ≤ 900000) (x8 : Int) : Ev (fun k => logbooklaw32_ExportBack.j1 k x0 x1 s (es.map Ent.n) (es.map toI) x8 false) true := by
  have h := all_yes es [] [] s hok hb (by omega) (by simp; omega) (by simp; omega)
  rw [List.nil_append, List.nil_append] at h
  refine Ev.step (fun k => logbooklaw32_ExportBack.j1.eq_2 _ _ _ _ _ _ _ _) (Ev.neg (by decide) (Ev.bind h (Ev.pos rfl (Ev.pos (by simp) ?_))))
  rw [show (((es.map toI).length : Int) != ((es.map Ent.n).length : Int)) = false by simp]
  exact Ev.step (fun k => logbooklaw32_ExportBack.j3.eq_2 _ _ _ _ _ _ _) (Ev.neg (by decide) (l2_go s es hok hes hb hs es.length 0 rfl))
theorem main_go (x0 : List S23) (x1 : List (List ByteArray)) (h0 : ∀ x ∈ x0, U64 x.f0 ∧ U64 x.f1 ∧ U64 x.f2 ∧ U64 x.f3 ∧ U64 x.f4 ∧ U64 x.f5) : ∀ (q i : Nat) (s : ByteArray) (es : List Ent), q + i = 8 → (∀ e ∈ es, EntOk e) → es.length ≤ i → bytesOf s = ents es [] → s.size ≤ 66800 * i →
    Ev (fun k => logbooklaw32_ExportBack.l0 k x0 x1 s (es.map Ent.n) (es.map toI) (i : Int)) true
  | q, i, s, es, hq, hok, hes, hb, hs => by
    by_cases h1 : i < x0.length
    · by_cases h2 : i < x1.length
      · match q, hq with
        | 0, hq =>
          refine Ev.step (fun k => logbooklaw32_ExportBack.l0.eq_2 _ _ _ _ _ _ _) (Ev.pos (by omega) (Ev.pos (by omega) ?_))
          rw [show decide ((i : Int) < 8) = false from decide_eq_false (by omega)]
          exact fin x0 x1 s es hok (by omega) hb (by omega) _
        | q + 1, hq =>
          refine Ev.step (fun k => logbooklaw32_ExportBack.l0.eq_2 _ _ _ _ _ _ _) (Ev.pos (by omega) (Ev.pos (by omega) ?_))
          rw [show decide ((i : Int) < 8) = true from decide_eq_true (by omega)]
          obtain ⟨o, c, hc, ho64, hc2⟩ := check_any (rd_L6 x1 (i : Int))
          obtain ⟨b, hfew⟩ := few_any (rd_L6 x1 (i : Int))
          refine Ev.step (fun k => logbooklaw32_ExportBack.j1.eq_2 _ _ _ _ _ _ _ _) (Ev.pos rfl (Ev.pos (by omega) (Ev.pos (by omega) (Ev.bind hc (Ev.bind hfew ?_)))))
          cases b with
          | false => exact Ev.neg (by decide) (Ev.bind awake_tells (Ev.now _))
          | true =>
            refine Ev.pos rfl ?_
            have hw := wi1 (i := i) (n := 8) (by omega) (by decide)
            have skip : Ev (fun k => logbooklaw32_ExportBack.l0 k x0 x1 s (es.map Ent.n) (es.map toI) (wrap64 ((i : Int) + 1))) true := by
              rw [hw]
              exact main_go x0 x1 h0 q (i + 1) s es (by omega) hok (by omega) hb (by omega)
            obtain ⟨c', g1, g2⟩ := l1_go x0 x1 s (es.map Ent.n) (es.map toI) (i : Int) o ho64 o.length 0 c rfl
            refine g2 _ ?_
            by_cases hc0 : c' = 0
            · obtain ⟨e1, e2⟩ := g1 hc0
              obtain ⟨o1, o2⟩ := hc2 e1
              rw [List.drop_zero] at e2
              obtain ⟨its, hits, hok2⟩ := pick_items o (fun x hx => ⟨o2 x hx, e2 x hx⟩)
              have hr : rd_T23 x0 (i : Int) = x0[i] := by
                unfold rd_T23
                rw [Int.toNat_natCast, List.getD_eq_getElem?_getD, List.getElem?_eq_getElem h1]
                rfl
              have hu := h0 x0[i] (List.getElem_mem h1)
              generalize x0[i] = n at hr hu
              have hil : its.length = o.length := by rw [hits, List.length_map]
              have heok : EntOk ⟨n, its⟩ := ⟨hu, hok2, by rw [hil]; exact o1, by rw [hil]; exact ho64⟩
              have hent := entry_tells n.f0 n.f1 n.f2 n.f3 n.f4 n.f5 its hu.1 hu.2.1 hu.2.2.1 hu.2.2.2.1 hu.2.2.2.2.1 hu.2.2.2.2.2 hok2 heok.2.2.2
              have hel := entL_len heok
              have heq : frontL n.f0 n.f1 n.f2 n.f3 n.f4 n.f5 (wbs its ++ [10]) = entL ⟨n, its⟩ [] := rfl
              rw [heq] at hent
              have hB : Bytes (entL ⟨n, its⟩ []) := by
                obtain ⟨f1, f2, f3, f4⟩ := front_len n.f0 n.f1 n.f2 n.f3 n.f4 n.f5 hu.1 hu.2.1 hu.2.2.1 hu.2.2.2.1 hu.2.2.2.2.1 hu.2.2.2.2.2 (wbs its ++ [10])
                rw [← heq, f3]
                intro x hx
                rcases List.mem_append.1 hx with hx | hx
                · exact f4 x hx
                · rcases List.mem_append.1 hx with hx | hx
                  · exact wbs_bytes its hok2 x hx
                  · rw [List.mem_singleton] at hx
                    omega
              have hsz : (strOfNums (entL ⟨n, its⟩ [])).size = (entL ⟨n, its⟩ []).length := size_str _
              have ih := main_go x0 x1 h0 q (i + 1) (s ++ strOfNums (entL ⟨n, its⟩ [])) (es ++ [⟨n, its⟩]) (by omega) (fun e he => by
                rcases List.mem_append.1 he with he | he
                · exact hok e he
                · rw [List.mem_singleton] at he
                  subst he
                  exact heok) (by rw [List.length_append]; simp; omega) (by rw [bytesOf_append, hb, bytes_str hB, ents_snoc, ← ents_app]) (by rw [ByteArray.size_append]; omega)
              rw [List.map_append, List.map_append] at ih
              refine Ev.pos hc0 (Ev.pos (by omega) (Ev.pos (by omega) ?_))
              rw [hr, hw]
              refine Ev.bindc rfl ?_
              rw [hits]
              exact Ev.bind hent (Ev.pos (by omega) (Ev.pos (by rw [List.length_map]; omega) (Ev.pos (by rw [List.length_map]; omega) ih)))
            · exact Ev.neg hc0 skip
      · refine Ev.step (fun k => logbooklaw32_ExportBack.l0.eq_2 _ _ _ _ _ _ _) (Ev.pos (by omega) (Ev.neg (by omega) ?_))
        exact fin x0 x1 s es hok (by omega) hb (by omega) _
    · refine Ev.step (fun k => logbooklaw32_ExportBack.l0.eq_2 _ _ _ _ _ _ _) (Ev.neg (by omega) ?_)
      exact fin x0 x1 s es hok (by omega) hb (by omega) _
theorem law (x0 : List S23) (x1 : List (List ByteArray)) (h0 : ∀ x ∈ x0, U64 x.f0 ∧ U64 x.f1 ∧ U64 x.f2 ∧ U64 x.f3 ∧ U64 x.f4 ∧ U64 x.f5) : ∃ k, logbooklaw32_ExportBack.f k x0 x1 = some true :=
  Ev.rounds (Ev.bind awake_tells (Ev.pos rfl (main_go x0 x1 h0 8 0 (⟨#[]⟩ : ByteArray) [] rfl (fun e he => absurd he (by simp)) (Nat.le_refl _) rfl (Nat.le_refl _))))
end BC
end Go.Proofs.YtbbegchdlkmebaaDoor.Pure
namespace Go.Proofs.YtbbegchdlkmebaaDoor.PureExportBack
set_option linter.unusedVariables false
open Go.RowKit Go.Proofs.YtbbegchdlkmebaaDoor.PExportBack
theorem ExportBack (y0 : List S23) (y1 : List (List ByteArray))
    (w0 : (y0.length ≤ maxLen ∧ y0.length * 48 ≤ 140737488351232 ∧ ∀ x ∈ y0, ((Lit.int .u64 x.f0).wf = true) ∧ ((Lit.int .u64 x.f1).wf = true) ∧ ((Lit.int .u64 x.f2).wf = true) ∧ ((Lit.int .u64 x.f3).wf = true) ∧ ((Lit.int .u64 x.f4).wf = true) ∧ ((Lit.int .u64 x.f5).wf = true)))
    (w1 : (y1.length ≤ maxLen ∧ y1.length * 24 ≤ 140737488351232 ∧ ∀ x ∈ y1, (x.length ≤ maxLen ∧ x.length * 16 ≤ 140737488351232 ∧ ∀ x1 ∈ x, x1.size ≤ 140737488351232))) :
    ∃ k, logbooklaw32_ExportBack.f k y0 y1 = some true :=
  Pure.BC.law y0 y1 fun x hx => by
    obtain ⟨a, b, c, d, e, f⟩ := w0.2.2 x hx
    exact ⟨Evs.wf_u64 a, Evs.wf_u64 b, Evs.wf_u64 c, Evs.wf_u64 d, Evs.wf_u64 e, Evs.wf_u64 f⟩
end Go.Proofs.YtbbegchdlkmebaaDoor.PureExportBack
