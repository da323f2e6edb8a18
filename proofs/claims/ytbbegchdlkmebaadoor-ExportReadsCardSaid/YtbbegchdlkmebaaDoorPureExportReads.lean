/- What an export's text says, read by the program and by the reference: in plain Lean. -/
import Derived.Test.YtbbegchdlkmebaaDoorPExportReadsx3
import Derived.Test.YtbbegchdlkmebaaDoorPExportReadsx14
import Derived.Test.YtbbegchdlkmebaaDoorPExportReadsx15
import Derived.Test.YtbbegchdlkmebaaDoorReadsE
import Derived.Test.YtbbegchdlkmebaaDoorHex
import Derived.Test.YtbbegchdlkmebaaDoorCut
import Derived.Test.YtbbegchdlkmebaaDoorDec
import Derived.Test.YtbbegchdlkmebaaDoorStr
import Derived.Test.YtbbegchdlkmebaaDoorEvs
namespace Go.Proofs.YtbbegchdlkmebaaDoor.Pure
open Go.RowKit Go.Proofs.YtbbegchdlkmebaaDoor.PExportReads Go.Proofs.YtbbegchdlkmebaaDoorW.PrintWords Go.Proofs.YtbbegchdlkmebaaDoorW.PrintLast Go.Proofs.YtbbegchdlkmebaaDoorW.PrintMore Go.Proofs.YtbbegchdlkmebaaDoor.Evs Go.Proofs.YtbbegchdlkmebaaDoor.Str Go.Proofs.YtbbegchdlkmebaaDoor.Conv Go.Proofs.YtbbegchdlkmebaaDoor.Hex Go.Proofs.YtbbegchdlkmebaaDoor.Cut Go.Proofs.YtbbegchdlkmebaaDoor.Dec
set_option linter.unusedVariables false
set_option linter.unusedSimpArgs false
namespace RH
open Cu EW RA RB RC RD RE RF RG
theorem r_no (S : ByteArray) (hS : S.size ≤ 1000000) (hG : ¬ G S) : Ev (fun k => logbookref32_Read.f k S) rfZ := by
  have j1z : ∀ (x10 a b c d e f : Int), Ev (fun k => logbookref32_Read.j1 k S x10 true a b c d e f) rfZ := fun x10 a b c d e f => Ev.step (fun k => logbookref32_Read.j1.eq_2 _ _ _ _ _ _ _ _ _ _) (Ev.pos rfl (Ev.now _))
  have j0z : ∀ (x6 : Int), Ev (fun k => logbookref32_Read.j0 k S x6 true) rfZ := fun x6 => Ev.step (fun k => logbookref32_Read.j0.eq_2 _ _ _ _) (Ev.pos rfl (Ev.now _))
  obtain ⟨m, hm, ht⟩ : ∃ m : Nat, m ≤ S.size ∧ Ev (fun k => logbookref32_till.f k S 0 10) (m : Int) := by
    by_cases h10 : (10 : Int) ∈ bytesOf S
    · obtain ⟨l, r, h, hl⟩ := mem_split _ h10
      exact ⟨l.length, by have := two_size h; omega, till_yes S (by omega) 10 l r h hl⟩
    · exact ⟨S.size, Nat.le_refl _, till_no S (by omega) 10 h10⟩
  by_cases h9 : m < 9
  · exact Ev.bind ht (Ev.pos (by omega) (j0z _))
  refine Ev.bind ht (Ev.neg (by omega) (Ev.pos (by decide) (Ev.pos (by omega) ?_)))
  cases ((S.extract 0 9).toList != ([95, 95, 67, 85, 82, 83, 79, 82, 61] : List UInt8)) with
  | true => exact j0z _
  | false =>
    refine Ev.step (fun k => logbookref32_Read.j0.eq_2 _ _ _ _) (Ev.neg (by decide) (Ev.pos (by omega) (Ev.pos (by omega) ?_)))
    have hTz : (S.extract 9 ((m : Int)).toNat).size ≤ 10000000 := by
      rw [Int.toNat_natCast, ByteArray.size_extract]
      omega
    by_cases hx : ∃ a b c d e f, Text6 (S.extract 9 ((m : Int)).toNat) a b c d e f
    · obtain ⟨a, b, c, d, e, f, hx⟩ := hx
      obtain ⟨ha, hb, hc, hd, he, hf, _⟩ := id hx
      obtain ⟨f1, f2, _, f4⟩ := front_len a b c d e f ha hb hc hd he hf []
      have hEz : (strOfNums (frontL a b c d e f [] ++ [10])).size = (frontL a b c d e f []).length + 1 := by
        rw [size_str, List.length_append]
        rfl
      have w : wrap64 ((((frontL a b c d e f []).length + 1 : Nat) : Int) - 1) = (((frontL a b c d e f []).length : Nat) : Int) := by
        unfold wrap64
        omega
      refine Ev.bind (ref_yes _ hTz a b c d e f hx) (Ev.bind (ref_entry a b c d e f ha hb hc hd he hf) (Ev.pos rfl ?_))
      rw [hEz, w]
      refine Ev.both (fun _ => j1z _ _ _ _ _ _ _) (fun hn => Ev.pos (by omega) (Ev.pos (by omega) (Ev.pos (by omega) ?_)))
      cases hq : ((S.extract 0 ((((frontL a b c d e f []).length : Nat) : Int)).toNat).toList != ((strOfNums (frontL a b c d e f [] ++ [10])).extract 0 ((((frontL a b c d e f []).length : Nat) : Int)).toNat).toList) with
      | true => exact j1z _ _ _ _ _ _ _
      | false =>
        exfalso
        rw [bne_eq_false_iff_eq, toList_iff, Int.toNat_natCast, bytesOf_extract, bytesOf_extract, List.drop_zero, List.drop_zero, bytes_str (fun x hx => by
          rcases List.mem_append.1 hx with hx | hx
          · exact f4 x hx
          · rw [List.mem_singleton] at hx
            omega), List.take_left] at hq
        refine hG ⟨a, b, c, d, e, f, (bytesOf S).drop (frontL a b c d e f []).length, ha, hb, hc, hd, he, hf, ?_⟩
        rw [(front_len a b c d e f ha hb hc hd he hf _).2.2.1]
        have z := List.take_append_drop (frontL a b c d e f []).length (bytesOf S)
        rw [hq] at z
        exact z.symm
    · exact Ev.bind (ref_no _ hTz (fun a b c d e f g => hx ⟨a, b, c, d, e, f, g⟩)) (Ev.bind (ref_entry 0 0 0 0 0 0 u0 u0 u0 u0 u0 u0) (Ev.neg (by simp) (j1z _ _ _ _ _ _ _)))
theorem texts_go (l : List ByteArray) (hl : l.length ≤ 1000000) : ∀ (d i : Nat), d + i = l.length → Ev (fun k => logbookref04_Texts.l0 k l l i) true
 | 0, i, hd => Ev.step (fun k => logbookref04_Texts.l0.eq_2 _ _ _ _) (Ev.neg (by omega) (Ev.now _))
 | d + 1, i, hd => by
  refine Ev.step (fun k => logbookref04_Texts.l0.eq_2 _ _ _ _) (Ev.pos (by omega) (Ev.pos (by omega) (Ev.pos (by omega) (Ev.pos rfl ?_))))
  rw [wi1 (i := i) (n := l.length) (by omega) (by omega)]
  exact texts_go l hl d (i + 1) (by omega)
theorem texts_tells (l : List ByteArray) (hl : l.length ≤ 1000000) : Ev (fun k => logbookref04_Texts.f k l l) true := Ev.pos rfl (texts_go l hl l.length 0 (by omega))
theorem awake_tells : Ev (fun k => logbooklaw32_awake.f k) true := by
 obtain ⟨r, h1, _, _⟩ := item_same (⟨#[65, 61, 49]⟩ : ByteArray) (by decide)
 have hr : export_Item.f (⟨#[65, 61, 49]⟩ : ByteArray) = some (⟨#[65, 61, 49, 10]⟩ : ByteArray) := by decide +kernel
 refine Ev.bindc hr (Ev.pos (by decide +kernel) (Ev.bind (Num.decimal_tells 120 (by decide) (by decide)) (Ev.eq (Ev.now _) ?_)))
 decide +kernel
theorem fin_no (S : ByteArray) (hS : S.size ≤ 5000) (hP : Ev (fun k => export_Read.f k S) rdZ) (hR : Ev (fun k => logbookref32_Read.f k S) rfZ) : Ev (fun k => logbooklaw32_ExportReads.f k S) true :=
 Ev.neg (by omega) (Ev.bind hP (Ev.bind hR (Ev.neg (by decide) (Ev.bindc rfl (Ev.neg (by decide) (Ev.bind (texts_tells [] (by decide)) (Ev.pos rfl (Ev.neg (by decide) (Ev.pos (toList_eq_nil.2 rfl) (Ev.bind awake_tells (Ev.now _)))))))))))
theorem fin_yes (S : ByteArray) (hS : S.size ≤ 5000) (a b c d e f : Int) (its : List ByteArray) (n : Nat) (hn : n ≤ S.size) (hi : its.length ≤ 64) (hP : Ev (fun k => export_Read.f k S) (a, b, c, d, e, f, its, strOfNums ((bytesOf S).drop n), true)) (hR : Ev (fun k => logbookref32_Read.f k S) (a, b, c, d, e, f, its, (n : Int), true)) : Ev (fun k => logbooklaw32_ExportReads.f k S) true := by
 have e1 : (strOfNums ((bytesOf S).drop n)).toList = (S.extract ((n : Int)).toNat S.size).toList := by
  rw [toList_iff, Int.toNat_natCast, bytesOf_extract, List.take_of_length_le (by rw [bytesOf_length]; exact Nat.le_refl _), bytes_str (fun x hx => bytesOf_bytes S x (List.mem_of_mem_drop hx))]
 exact Ev.neg (by omega) (Ev.bind hP (Ev.bind hR (Ev.neg (by simp) (Ev.bindc rfl (Ev.neg (by simp) (Ev.bind (texts_tells its (by omega)) (Ev.pos rfl (Ev.pos rfl (Ev.pos (show (0 : Int) ≤ (n : Int) by omega) (Ev.pos (show (n : Int) ≤ (S.size : Int) by omega) (Ev.pos e1 (Ev.bind awake_tells (Ev.now _)))))))))))))
theorem read_same (S : ByteArray) (hS : S.size ≤ 1000000) : (Ev (fun k => export_Read.f k S) rdZ ∧ Ev (fun k => logbookref32_Read.f k S) rfZ) ∨ ∃ a b c d e f its n, n ≤ S.size ∧ its.length ≤ 64 ∧ Ev (fun k => export_Read.f k S) (a, b, c, d, e, f, its, strOfNums ((bytesOf S).drop n), true) ∧ Ev (fun k => logbookref32_Read.f k S) (a, b, c, d, e, f, its, (n : Int), true) := by
 by_cases hG : G S
 ·obtain ⟨a, b, c, d, e, f, R, ha, hb, hc, hd, he, hf, h⟩ := hG
  obtain ⟨f1, f2, f3, f4⟩ := front_len a b c d e f ha hb hc hd he hf R
  have hz : (frontL a b c d e f []).length + R.length = S.size := by
   rw [← bytesOf_length, h, f3, List.length_append]
  have hRB : Bytes R := fun x hx => bytesOf_bytes S x (by rw [h, f3]; simp [hx])
  have hd0 : bytesOf (strOfNums R) = (bytesOf S).drop (frontL a b c d e f []).length := by
   rw [bytes_str hRB, h, f3, List.drop_left]
  have py := p_yes S hS a b c d e f R ha hb hc hd he hf h
  have ry := r_yes S hS a b c d e f R ha hb hc hd he hf h
  rcases joint S hS _ (by rw [size_str]; have := textL_len a b c d e f; omega) a b c d e f (text6_str ha hb hc hd he hf) 64 [] (strOfNums R) _ rfl (by omega) hd0 with ⟨j1, j2⟩ | ⟨its, n, j0, j00, j1, j2⟩
  ·exact .inl ⟨py _ j1, ry _ j2⟩
  ·exact .inr ⟨a, b, c, d, e, f, its, n, j0, j00, py _ j1, ry _ j2⟩
 ·exact .inl ⟨p_no S hS hG, r_no S hS hG⟩
theorem law (S : ByteArray) : ∃ k, logbooklaw32_ExportReads.f k S = some true := by
 apply Ev.rounds
 by_cases hS : 5000 < S.size
 ·exact Ev.pos (by omega) (Ev.bind awake_tells (Ev.now _))
 ·rcases read_same S (by omega) with ⟨h1, h2⟩ | ⟨a, b, c, d, e, f, its, n, h0, h00, h1, h2⟩
  ·exact fin_no S (by omega) h1 h2
  ·exact fin_yes S (by omega) a b c d e f its n h0 h00 h1 h2
end RH
theorem ExportReads : logbooklaw32_ExportReads.Pure := fun a0 _ => RH.law a0
end Go.Proofs.YtbbegchdlkmebaaDoor.Pure
