-- LAID BY gprint.py: a scratch copy of the print, with functions that this session proved by hand among the printed ones
import Derived.Test.YtldoaommikclbaaPScanObjectsx0
import Derived.Test.YtldoaommikclbaaPScanObjectsx2
import Derived.Test.YtldoaommikclbaaPScanObjectsx3
namespace Go.Proofs.Ytldoaommikclbaa.PScanObjects
open Go.RowKit Go.Proofs.YtldoaommikclbaaW.PrintWords Go.Proofs.YtldoaommikclbaaW.PrintLast Go.Proofs.Ytldoaommikclbaa.Conv Go.Proofs.YtldoaommikclbaaW.PrintMore
attribute [local go_sem] max2_int min2_int max_two min_two max_three min_three max_four min_four gtr_less   -- for this text's walks alone
set_option linter.unusedVariables false
set_option linter.unusedSimpArgs false

-- GIVEN rounds=1 making=1 needs=logbook/scan.All,logbook/obj.Size
def rowsL (k : Nat) : List ORow → List S33 → Option (List S33)
  | [], acc => some acc
  | r :: t, acc => (obj_Size.f k r.2.1 r.2.2.1 r.2.2.2.1 r.2.2.2.2.1).bind fun s => if acc.length ≤ 1000000 then rowsL k t (acc ++ [⟨r.1, wrap64 (r.1 + s), ⟨r.2.1, r.2.2.1, r.2.2.2.1, r.2.2.2.2.1⟩⟩]) else none
theorem rowsL_k (k : Nat) : ∀ (rows : List ORow) (acc : List S33), LeO (rowsL k rows acc) (rowsL (k + 1) rows acc)
  | [], _ => LeO.refl _
  | r :: t, acc => by
      unfold rowsL
      exact LeO.bind (obj_Size.mono _ _ _ _ _) (fun s => LeO.ite (rowsL_k k t _) (LeO.refl _))
def logbooklaw17_rows.f (k : Nat) (l : List Int) (a1 a2 : Int) : Option (List S33) := (allL k l a2 k a1).bind fun rows => rowsL k rows []
theorem logbooklaw17_rows.mono : ∀ l a b k, LeO (logbooklaw17_rows.f k l a b) (logbooklaw17_rows.f (k + 1) l a b) := by
  intro l a b k
  unfold logbooklaw17_rows.f
  exact LeO.bind (fun r h => allL_fuel _ _ _ _ _ r (allL_k k l b k a r h)) (fun rows => rowsL_k k rows [])
theorem rowsInfo : (Try.prog.info? 33).map (fun i => (i.zero, i.size, i.bytes)) = some (some (.agg #[.int .i64 0, .int .i64 0, .int .i64 0, .slice none 0 0, .slice none 0 0, .slice none 0 0]), 6, 96) := by kernel_rfl
def rowsI (k : Nat) (rows : List ORow) (r : List S33) (w w2 : World) (bb bf bt : Nat) (ok : Nat → Prop) (pre : List SObj) (W : World) : Prop :=
  ∃ rest acc v, pre.map SObj.row ++ rest = rows ∧ rowsL k rest acc = some r ∧ W.heap[w.heap.size]? = some (.cells #[v] 24 (0, 0)) ∧ Kd.S k33 33 W w.heap.size ok v acc ∧ Below w.heap.size w W ∧ KpS w.heap.size bb bf bt w2 W
theorem rowsI_kept {k : Nat} {rows : List ORow} {r : List S33} {w w2 : World} {bb bf bt : Nat} {ok : Nat → Prop} (hB : w.heap.size ≤ w2.heap.size) (hb1 : bb < w2.heap.size) (hb2 : bf < w2.heap.size) (hb3 : bt < w2.heap.size) : Rng.Kept w2.heap.size (rowsI k rows r w w2 bb bf bt ok) :=
  ⟨fun s A A' h hb => by
      obtain ⟨rest, acc, v, h1, h2, b7, hS, hl, hn⟩ := h
      exact ⟨rest, acc, v, h1, h2, blk_below b7 hb, Kd.S_below hS hb, hl.trans (hb.mono hl.size), hn.trans (KpS.of_below hb hl.size (Nat.lt_of_lt_of_le hb1 hn.low.size) (Nat.lt_of_lt_of_le hb2 hn.low.size) (Nat.lt_of_lt_of_le hb3 hn.low.size))⟩,
    fun s A l_ o o' h hl_ ho hc => by
      obtain ⟨rest, acc, v, h1, h2, b7, hS, hl, hn⟩ := h
      exact ⟨rest, acc, v, h1, h2, (put_other ho hc b7).trans b7, S_put hS o' ho hc, below_put hl o' (Nat.le_trans hB hl_) ho, hn.trans (kpS_put hB hb1 hb2 hb3 A l_ o o' hl_ ho hc)⟩⟩
theorem iter_nil (c : Array Value) : ∀ w, (binOp BinOp.eql 49 (.func (.func 31) #[] c) .nilFunc).run Try.prog w = .ok (.bool false) w := by
  intro w
  have hu49 := Try.underlying49
  have e : (Op.equalIn Op.maxDepth 49 (.func (.func 31) #[] c) .nilFunc).run Try.prog w = .ok false w := by
    rw [show Op.maxDepth = (Op.maxDepth - 1) + 1 from rfl]
    simp [Op.equalIn, run_underlying hu49, go_sem]
  simp [binOp, Op.equal, e, go_sem]
def rowS (g : Nat) (k0 k1 k2 k3 : Value) (W : World) : Prop := W.heap[g]? = some (.cells #[k0, k1, k2, k3] 42 (0, 0))
theorem rowS_cells {g : Nat} {k0 k1 k2 k3 : Value} {W : World} (h : rowS g k0 k1 k2 k3 W) : W.cell? ⟨g, 0, none⟩ = some k0 ∧ W.cell? ⟨g, 1, none⟩ = some k1 ∧ W.cell? ⟨g, 2, none⟩ = some k2 ∧ W.cell? ⟨g, 3, none⟩ = some k3 :=
  ⟨blk_cell h 0, blk_cell h 1, blk_cell h 2, blk_cell h 3⟩
section
attribute [local go_sem] Oper.semAt_some
set_option maxRecDepth 100000 in
set_option maxHeartbeats 6400000 in
theorem logbooklaw17_rows.calls (k : Nat) (A0 : Option Addr) (c0 : Nat) (l0 : List Int) (a1 a2 : Int) (r : List S33) (w : World) (hr0 : Kd.C (Kd.int .u8) w A0 l0.length l0) (hc0 : l0.length ≤ c0) (h : logbooklaw17_rows.f k l0 a1 a2 = some r) :
    Calls Try.prog 6 #[.slice A0 l0.length c0, .int .i64 a1, .int .i64 a2] w fun e w' => ∃ v0_ : Value, e = .returned (v0_) ∧ Kd.S k33 33 w' w.heap.size (fun _ => True) v0_ r ∧ Below w.heap.size w w' := by
  obtain ⟨rows, hrows, h⟩ := Option.bind_eq_some_iff.1 h
  have HRW := Lib.hid hrows
  have HEN := Lib.hid h
  have HR := Lib.hid hr0
  have HC := Lib.hid hc0
  clear hr0 hc0 h hrows
  refine (callsIn_wide (n := 3)).1 ?_
  refine callsIn_of_wp_marks Try.func6 rfl trivial ?_ rfl
  simp only [Try.ntmps6, List.size_toArray, List.length_cons, List.length_nil, Nat.reduceAdd, Nat.reduceSub, Array.replicate_succ, Array.replicate_zero, List.push_toArray, List.append_toArray, List.nil_append, List.cons_append]
  gi_wp2_with (refine ⟨trivial, ?_⟩; refine (callsIn_wide.2 (scanAll_calls A0 c0 l0 a1 a2 _)).mono ?_; rintro e w2 ⟨bb, bf, bt, rfl, hb, hf, ht, hl, hbl⟩; have HBX := Lib.hid (And.intro hb (And.intro hf ht)); have HLO := Lib.hid (show w.heap.size < bb ∧ w.heap.size < bf ∧ w.heap.size < bt by simp at hl; omega); have HBL := Lib.hid (((Below.refl w.heap.size w).alloc (Nat.le_refl _) (.cells #[.slice none 0 0] 24)).trans (hbl.mono (by simp))); have HI := Lib.hid (show rowsI k rows r w w2 bb bf bt (fun _ => True) [] w2 from ⟨rows, [], _, rfl, HEN.out, blk_below (blk_new w _) hbl, Kd.S_nil _ _ _ _ _, HBL.out, ⟨Below.refl _ _, rfl, rfl, rfl⟩⟩); have hnil := iter_nil #[.pointer (some ⟨bf, 0, none⟩), .pointer (some ⟨bt, 0, none⟩), .pointer (some ⟨bb, 0, none⟩)]; clear hb hf ht hl hbl)
  refine Rng.wpIn_range rfl (by omega) (gf := 31) (lb := #[.pointer (some ⟨bf, 0, none⟩), .pointer (some ⟨bt, 0, none⟩), .pointer (some ⟨bb, 0, none⟩)]) rfl trivial (enters_of Try.func31 (by kernel_rfl) rfl)
    (all1_seq _ k l0 A0 c0 a1 a2 rows bb bf bt k w w2 HBL.out HBX.out.1 HBX.out.2.1 HBX.out.2.2 HR.out HC.out HRW.out)
    (fun h k => KpS.trans h k) (kpS_put HBL.out.size (blk_lt HBX.out.1) (blk_lt HBX.out.2.1) (blk_lt HBX.out.2.2)) (Below.refl _ _) (fun _ => rfl)
    (rowsI k rows r w w2 bb bf bt (fun _ => True)) (fun _ _ _ => False) (rowsI_kept HBL.out.size (blk_lt HBX.out.1) (blk_lt HBX.out.2.1) (blk_lt HBX.out.2.2)) (fun c => ⟨fun s A A' h hb => h, fun s A l_ o o' h hl ho hc => h⟩) HI.out
    (fun pre x a' W => ∃ g A1 c1 A2 c2 A3 c3 N, W.heap[g]? = some (.cells #[.int .i64 x.kind, .slice A1 x.ws.length c1, .slice A2 x.raw.length c2, .slice A3 x.its.length c3] 42 (0, 0)) ∧ x.v1 = .slice A1 x.ws.length c1 ∧ x.v2 = .slice A2 x.raw.length c2 ∧ x.v3 = .slice A3 x.its.length c3 ∧ a' = { tmps := #[.slice A0 l0.length c0, .int .i64 a1, .int .i64 a2, undef, undef, undef, .slice none 0 0, .pointer (some ⟨w.heap.size, 0, none⟩), (.func (.func 31) #[] #[.pointer (some ⟨bf, 0, none⟩), .pointer (some ⟨bt, 0, none⟩), .pointer (some ⟨bb, 0, none⟩)]), .int .i64 x.at_, .pointer (some ⟨g, 0, none⟩), .slice A0 l0.length c0, .int .i64 a1, .int .i64 a2, (.func (.func 31) #[] #[.pointer (some ⟨bf, 0, none⟩), .pointer (some ⟨bt, 0, none⟩), .pointer (some ⟨bb, 0, none⟩)]), (.func (.func 31) #[] #[.pointer (some ⟨bf, 0, none⟩), .pointer (some ⟨bt, 0, none⟩), .pointer (some ⟨bb, 0, none⟩)]), .bool false, (.func (.func 31) #[] #[.pointer (some ⟨bf, 0, none⟩), .pointer (some ⟨bt, 0, none⟩), .pointer (some ⟨bb, 0, none⟩)]), .int .i64 x.at_, (.agg #[.int .i64 x.kind, .slice A1 x.ws.length c1, .slice A2 x.raw.length c2, .slice A3 x.its.length c3]), undef, undef, undef, undef, undef, undef, undef, undef, undef, undef, undef, undef, undef, undef, undef, undef, undef, undef, undef], defers := [] } ∧
      rowsI k rows r w w2 bb bf bt (fun k_ => k_ < N) pre W ∧ sG rows pre x N W ∧ w2.heap.size ≤ g ∧ w2.heap.size ≤ N)
    ?ax ?assign ?body ?done ?stop
  case ax =>
    rintro pre x a' W l_ o o' ⟨g, A1, c1, A2, c2, A3, c3, N, hg, e1, e2, e3, rfl, hI, hG, hgl, hN⟩ hl ho hc
    exact ⟨g, A1, c1, A2, c2, A3, c3, N, (put_other ho hc hg).trans hg, e1, e2, e3, rfl, (rowsI_kept HBL.out.size (blk_lt HBX.out.1) (blk_lt HBX.out.2.1) (blk_lt HBX.out.2.2)).put _ _ _ _ _ hI hl ho hc, sG_put hG o' ho hc, hgl, hN⟩
  case assign =>
    rintro yl pre x Wp W K hIp hbp hG hK
    obtain ⟨rest, acc, v, h1, h2, b7, hS, hlow, hn⟩ := hIp
    have hI : rowsI k rows r w w2 bb bf bt (fun k_ => k_ < Wp.heap.size) pre W := ⟨rest, acc, v, h1, h2, blk_below b7 hbp, Kd.S_mono (Kd.S_old hS hbp) (fun _ h_ => h_.2), hlow.trans (hbp.mono hlow.size), hn.trans (KpS.of_below hbp hlow.size (Nat.lt_of_lt_of_le (blk_lt HBX.out.1) hn.low.size) (Nat.lt_of_lt_of_le (blk_lt HBX.out.2.1) hn.low.size) (Nat.lt_of_lt_of_le (blk_lt HBX.out.2.2) hn.low.size))⟩
    have HN := Lib.hid hn.low.size
    have hns := Nat.le_trans hn.low.size hbp.size
    have HLS := Lib.hid (Nat.le_trans hlow.size hbp.size)
    have HNS := Lib.hid hns
    clear h1 h2 b7 hS hlow hn hbp hns
    obtain ⟨hx, q1, q2, q3⟩ := hG
    obtain ⟨A1, c1, e1⟩ := Kd.R_slice q1
    obtain ⟨A2, c2, e2⟩ := Kd.R_slice q2
    obtain ⟨A3, c3, e3⟩ := Kd.R_slice q3
    have HK := Lib.hid hK
    have HI2 := Lib.hid hI
    have HG := Lib.hid (show sG rows pre x Wp.heap.size W from ⟨hx, q1, q2, q3⟩)
    clear hK hI hx q1 q2 q3
    unfold sEnc
    rw [e1, e2, e3]
    gi_wp2
    have hb := (Below.refl W.heap.size W).alloc (Nat.le_refl _) (.cells #[.int .i64 x.kind, .slice A1 x.ws.length c1, .slice A2 x.raw.length c2, .slice A3 x.its.length c3] 42)
    exact HK.out _ _ (KeepsOthers.alloc _ _) (KpS.of_below hb HLS.out (Nat.lt_of_lt_of_le (blk_lt HBX.out.1) HNS.out) (Nat.lt_of_lt_of_le (blk_lt HBX.out.2.1) HNS.out) (Nat.lt_of_lt_of_le (blk_lt HBX.out.2.2) HNS.out))
      ⟨W.heap.size, A1, c1, A2, c2, A3, c3, Wp.heap.size, blk_new _ _, e1, e2, e3, rfl, (rowsI_kept HBL.out.size (blk_lt HBX.out.1) (blk_lt HBX.out.2.1) (blk_lt HBX.out.2.2)).below _ _ _ HI2.out hb, sG_below HG.out hb, HNS.out, HN.out⟩
  case stop =>
    rintro D c pre W hD hS h hK
    exact h.elim
  case body =>
    rintro yl pre x a' W ⟨g, A1, c1, A2, c2, A3, c3, N, hg, e1, e2, e3, rfl, ⟨rest, acc, v, h1, h2, b7, hS, hlow, hn⟩, hG, hgl, hN⟩
    obtain ⟨⟨t, ht⟩, q1, q2, q3⟩ := hG
    rw [e1] at q1
    rw [e2] at q2
    rw [e3] at q3
    have hrest : rest = x.row :: t := List.append_cancel_left (h1.trans ht.symm)
    subst hrest
    have hrows2 : (pre ++ [x]).map SObj.row ++ t = rows := by rw [List.map_append, List.append_assoc]; exact ht
    unfold rowsL at h2
    obtain ⟨s, hs, h3⟩ := Option.bind_eq_some_iff.1 h2
    by_cases hc4 : acc.length ≤ 1000000
    case neg => rw [if_neg hc4] at h3; cases h3
    rw [if_pos hc4] at h3
    obtain ⟨Av, cv, hv⟩ := Kd.S_slice hS
    subst hv
    have HQ := Lib.hid (And.intro q1 (And.intro q2 q3))
    have HSS := Lib.hid hS
    have HLW := Lib.hid hlow
    have HN := Lib.hid hn
    have HNN := Lib.hid hN
    have HG0 := Lib.hid hg
    have HGL := Lib.hid hgl
    have HT := Lib.hid hrows2
    have HS := Lib.hid (show obj_Size.f k x.kind x.ws x.raw x.its = some s from hs)
    have H3 := Lib.hid h3
    have HC4 := Lib.hid hc4
    have HB7 := Lib.hid b7
    have hS0 : rowS g (.int .i64 x.kind) (.slice A1 x.ws.length c1) (.slice A2 x.raw.length c2) (.slice A3 x.its.length c3) W.drew := blk_drew hg
    have j7 := blk_cell b7 0
    simp at j7
    have hgw : g ≠ w.heap.size := by
      have := blk_lt HBX.out.1
      have := HLO.out.1
      omega
    have HGW := Lib.hid hgw
    have hlv : ∀ k_, (Value.slice Av acc.length cv).ownBlock = some k_ → k_ < N := (Kd.S_R hS).1
    have HLV := Lib.hid hlv
    have hfin : ∀ (W2 : World), Below W.drew.heap.size W.drew W2 → ∀ (Aw : Option Addr) (cw : Nat) (w5 : World), Kd.S k33 33 w5 w.heap.size (fun _ => True) (.slice Aw (acc.length + 1) cw) (acc ++ [(⟨x.at_, wrap64 (x.at_ + s), ⟨x.kind, x.ws, x.raw, x.its⟩⟩ : S33)]) → Below w.heap.size w w5 → W2.grownBy w5 (Value.slice Av acc.length cv).ownBlock →
        ∀ a_ : Act, Rng.post (KpS w.heap.size bb bf bt) (rowsI k rows r w w2 bb bf bt (fun _ => True)) (fun _ _ _ => False) (pre ++ [x]) W .normal a_ (w5.setCell ⟨w.heap.size, 0, none⟩ (.slice Aw (acc.length + 1) cw)) := by
      intro W2 hb2 Aw cw w5 ho hb hg5 a_
      have hb2' : Below W.heap.size W W2 := ((Below.refl W.heap.size W).drew).trans hb2
      have hS2 := Kd.S_below HSS.out hb2'
      have hty := Kd.S_typed hS2
      have hne0 : ∀ {g_ : Nat} {cs_ : Array Value} {t_ : TypeId}, W2.heap[g_]? = some (.cells cs_ t_ (0, 0)) → 33 ≠ t_ → some g_ ≠ (Value.slice Av acc.length cv).ownBlock := fun h_ ht_ => Kd.R_ne (Kd.S_R hS2) h_ ht_
      have p7 := blk_below HB7.out hb2'
      have q7 := blk_grown p7 hg5 (hne0 p7 (by decide))
      have pb := blk_below (HN.out.b.trans HBX.out.1) hb2'
      have pf := blk_below (HN.out.f.trans HBX.out.2.1) hb2'
      have pt := blk_below (HN.out.t.trans HBX.out.2.2) hb2'
      have kA := KpS.of_below (n₀ := w.heap.size) (bb := bb) (bf := bf) (bt := bt) hb2' HLW.out.size (blk_lt (HN.out.b.trans HBX.out.1)) (blk_lt (HN.out.f.trans HBX.out.2.1)) (blk_lt (HN.out.t.trans HBX.out.2.2))
      have kB : KpS w.heap.size bb bf bt W2 w5 :=
        ⟨(Below.refl w.heap.size W2).grown hg5 (Nat.le_trans HLW.out.size hb2'.size) (fun k_ e_ => Kd.S_base hS2 k_ e_),
          hg5.block bb (blk_lt pb) (hne0 pb (by decide)), hg5.block bf (blk_lt pf) (hne0 pf (by decide)), hg5.block bt (blk_lt pt) (hne0 pt (by decide))⟩
      have kC : KpS w.heap.size bb bf bt W (w5.setCell ⟨w.heap.size, 0, none⟩ (.slice Aw (acc.length + 1) cw)) :=
        kA.trans (kB.trans (KpS.set w5 (Nat.le_refl _) (Nat.ne_of_gt HLO.out.1) (Nat.ne_of_gt HLO.out.2.1) (Nat.ne_of_gt HLO.out.2.2) 0 _))
      exact ⟨(Rng.keepsOthers_below hb2').trans ((KeepsOthers.of_grownBy hg5 (fun j o hj ho => by obtain ⟨cells, hc⟩ := hty j hj; rw [hc] at ho; injection ho with ho; rw [← ho]; rfl)).trans (KeepsOthers.setCell _ _ _)), kC,
        t, _, _, HT.out, H3.out, blk_put q7 0 _ rfl, Kd.S_set ho q7 (by decide) 0 _, hb.setCell (p := ⟨w.heap.size, 0, none⟩) (Nat.le_refl _) _, HN.out.trans kC⟩
    have HF := Lib.hid hfin
    have hu31 := Try.underlying31
    have hu33 := Try.underlying33
    clear q1 q2 q3 ht h1 h2 h3 hs b7 hS hlow hn hg hgl hN hrows2 hc4 hgw hlv hfin
    gi_wp2
    refine Rng.wpIn_round_held (S := rowS g (.int .i64 x.kind) (.slice A1 x.ws.length c1) (.slice A2 x.raw.length c2) (.slice A3 x.its.length c3)) yl (by kernel_rfl) (Rng.noDefer_spec (by kernel_rfl)) (fun h_ => by obtain ⟨_, _, h_⟩ := h_; exact h_) ?_
    show wpAnyH _ _ _ _ _ 19 (Array.replicate 19 false) _ _
    refine Rng.wpAnyH_takeL (i := 1) (v := ?v1_1) rfl (by kernel_rfl) (by kernel_rfl) (by kernel_rfl) (fun _ _ _ h_ => h_) (Or.inl ⟨by rfl, ?hy1_1⟩) hS0 ?rest1_1
    case hy1_1 =>
      intro W0 hSw
      obtain ⟨s1, s2, s3, s4⟩ := rowS_cells hSw
      clear hSw
      go_simp
      try with_reducible rfl
    try simp only [Act.put, List.setIfInBounds_toArray, List.set_cons_zero, List.set_cons_succ, i64_w]
    refine Rng.wpAnyH_takeL (i := 2) (v := ?v2_2) rfl (by kernel_rfl) (by kernel_rfl) (by kernel_rfl) (fun _ _ _ h_ => h_) (Or.inl ⟨by rfl, ?hy2_2⟩) hS0 ?rest2_2
    case hy2_2 =>
      intro W0 hSw
      obtain ⟨s1, s2, s3, s4⟩ := rowS_cells hSw
      clear hSw
      go_simp
      try with_reducible rfl
    try simp only [Act.put, List.setIfInBounds_toArray, List.set_cons_zero, List.set_cons_succ, i64_w]
    refine Rng.wpAnyH_takeL (i := 3) (v := ?v3_3) rfl (by kernel_rfl) (by kernel_rfl) (by kernel_rfl) (fun _ _ _ h_ => h_) (Or.inl ⟨by rfl, ?hy3_3⟩) hS0 ?rest3_3
    case hy3_3 =>
      intro W0 hSw
      obtain ⟨s1, s2, s3, s4⟩ := rowS_cells hSw
      clear hSw
      go_simp
      try with_reducible rfl
    try simp only [Act.put, List.setIfInBounds_toArray, List.set_cons_zero, List.set_cons_succ, i64_w]
    refine Rng.wpAnyH_takeL (i := 6) (v := ?v6_4) rfl (by kernel_rfl) (by kernel_rfl) (by kernel_rfl) (fun _ _ _ h_ => h_) (Or.inl ⟨by rfl, ?hy6_4⟩) hS0 ?rest6_4
    case hy6_4 =>
      intro W0 hSw
      obtain ⟨s1, s2, s3, s4⟩ := rowS_cells hSw
      clear hSw
      go_simp
      try with_reducible rfl
    try simp only [Act.put, List.setIfInBounds_toArray, List.set_cons_zero, List.set_cons_succ, i64_w]
    refine Rng.wpAnyH_takeL (i := 7) (v := ?v7_5) rfl (by kernel_rfl) (by kernel_rfl) (by kernel_rfl) (fun _ _ _ h_ => h_) (Or.inl ⟨by rfl, ?hy7_5⟩) hS0 ?rest7_5
    case hy7_5 =>
      intro W0 hSw
      obtain ⟨s1, s2, s3, s4⟩ := rowS_cells hSw
      clear hSw
      go_simp
      try with_reducible rfl
    try simp only [Act.put, List.setIfInBounds_toArray, List.set_cons_zero, List.set_cons_succ, i64_w]
    refine Rng.wpAnyH_takeL (i := 8) (v := ?v8_6) rfl (by kernel_rfl) (by kernel_rfl) (by kernel_rfl) (fun _ _ _ h_ => h_) (Or.inl ⟨by rfl, ?hy8_6⟩) hS0 ?rest8_6
    case hy8_6 =>
      intro W0 hSw
      obtain ⟨s1, s2, s3, s4⟩ := rowS_cells hSw
      clear hSw
      go_simp
      try with_reducible rfl
    try simp only [Act.put, List.setIfInBounds_toArray, List.set_cons_zero, List.set_cons_succ, i64_w]
    refine Rng.wpAnyH_takeL (i := 9) (v := ?v9_7) rfl (by kernel_rfl) (by kernel_rfl) (by kernel_rfl) (fun _ _ _ h_ => h_) (Or.inl ⟨by rfl, ?hy9_7⟩) hS0 ?rest9_7
    case hy9_7 =>
      intro W0 hSw
      obtain ⟨s1, s2, s3, s4⟩ := rowS_cells hSw
      clear hSw
      go_simp
      try with_reducible rfl
    try simp only [Act.put, List.setIfInBounds_toArray, List.set_cons_zero, List.set_cons_succ, i64_w]
    refine Rng.wpAnyH_takeL (i := 10) (v := ?v10_8) rfl (by kernel_rfl) (by kernel_rfl) (by kernel_rfl) (fun _ _ _ h_ => h_) (Or.inl ⟨by rfl, ?hy10_8⟩) hS0 ?rest10_8
    case hy10_8 =>
      intro W0 hSw
      obtain ⟨s1, s2, s3, s4⟩ := rowS_cells hSw
      clear hSw
      go_simp
      try with_reducible rfl
    try simp only [Act.put, List.setIfInBounds_toArray, List.set_cons_zero, List.set_cons_succ, i64_w]
    refine Rng.wpAnyH_takeL (i := 11) (v := ?v11_9) rfl (by kernel_rfl) (by kernel_rfl) (by kernel_rfl) (fun _ _ _ h_ => h_) (Or.inl ⟨by rfl, ?hy11_9⟩) hS0 ?rest11_9
    case hy11_9 =>
      intro W0 hSw
      obtain ⟨s1, s2, s3, s4⟩ := rowS_cells hSw
      clear hSw
      go_simp
      try with_reducible rfl
    try simp only [Act.put, List.setIfInBounds_toArray, List.set_cons_zero, List.set_cons_succ, i64_w]
    refine Rng.wpAnyH_takeL (i := 12) (v := ?v12_10) rfl (by kernel_rfl) (by kernel_rfl) (by kernel_rfl) (fun _ _ _ h_ => h_) (Or.inl ⟨by rfl, ?hy12_10⟩) hS0 ?rest12_10
    case hy12_10 =>
      intro W0 hSw
      obtain ⟨s1, s2, s3, s4⟩ := rowS_cells hSw
      clear hSw
      go_simp
      try with_reducible rfl
    try simp only [Act.put, List.setIfInBounds_toArray, List.set_cons_zero, List.set_cons_succ, i64_w]
    refine Rng.wpAnyH_takeL (i := 13) (v := ?v13_11) rfl (by kernel_rfl) (by kernel_rfl) (by kernel_rfl) (fun _ _ _ h_ => h_) (Or.inl ⟨by rfl, ?hy13_11⟩) hS0 ?rest13_11
    case hy13_11 =>
      intro W0 hSw
      obtain ⟨s1, s2, s3, s4⟩ := rowS_cells hSw
      clear hSw
      go_simp
      try with_reducible rfl
    try simp only [Act.put, List.setIfInBounds_toArray, List.set_cons_zero, List.set_cons_succ, i64_w]
    refine Rng.wpAnyH_takeL (i := 14) (v := ?v14_12) rfl (by kernel_rfl) (by kernel_rfl) (by kernel_rfl) (fun _ _ _ h_ => h_) (Or.inl ⟨by rfl, ?hy14_12⟩) hS0 ?rest14_12
    case hy14_12 =>
      intro W0 hSw
      obtain ⟨s1, s2, s3, s4⟩ := rowS_cells hSw
      clear hSw
      go_simp
      try with_reducible rfl
    try simp only [Act.put, List.setIfInBounds_toArray, List.set_cons_zero, List.set_cons_succ, i64_w]
    refine wpAnyH_ready (rs := [0, 4]) (by kernel_rfl) (by simp) ?_
    refine AllReadyH.cons rfl (fun K hK => ?_) (AllReadyH.cons rfl (fun K hK => ?_) AllReadyH.nil)
    · go_simp
      refine hK.out _ _ (hS0) (fun hS1 => ?_)
      clear hK K hS1
      try simp only [Act.put, List.setIfInBounds_toArray, List.set_cons_zero, List.set_cons_succ, i64_w]
      refine wpAnyH_ready (rs := [4]) (by kernel_rfl) (by simp) ?_
      refine AllReadyH.cons rfl (fun K hK => ?_) AllReadyH.nil
      go_simp
      (with_reducible refine (obj_Size.calls k x.kind A1 c1 x.ws A2 c2 x.raw A3 c3 x.its s _ (Kd.C_drew (Kd.R_reads' HQ.out.1).2.2) (Kd.R_reads' HQ.out.1).2.1 (Kd.C_drew (Kd.R_reads' HQ.out.2.1).2.2) (Kd.R_reads' HQ.out.2.1).2.1 (Kd.C_drew (Kd.R_reads' HQ.out.2.2).2.2) (Kd.R_reads' HQ.out.2.2).2.1 HS.out).mono ?_)
      rintro e_ W2 ⟨rfl, hb⟩
      try dsimp only
      have HB2 := Lib.hid hb
      have hS2 : rowS g (.int .i64 x.kind) (.slice A1 x.ws.length c1) (.slice A2 x.raw.length c2) (.slice A3 x.its.length c3) W2 := blk_below hS0 hb
      have j7b := blk_cell (blk_below (blk_drew HB7.out) hb) 0
      simp at j7b
      have j7c : ∀ o : Obj, (W2.alloc o).cell? ⟨w.heap.size, 0, none⟩ = some (.slice Av acc.length cv) := fun o => cell_later (below_alloc (Below.refl _ _) o) j7b
      clear hb
      refine hK.out _ _ (hS2) (fun hS1 => ?_)
      clear hK K hS1
      try simp only [Act.put, List.setIfInBounds_toArray, List.set_cons_zero, List.set_cons_succ, i64_w]
      refine Rng.wpAnyH_takeL (i := 5) (v := ?v5_13) rfl (by kernel_rfl) (by kernel_rfl) (by kernel_rfl) (fun _ _ _ h_ => h_) (Or.inl ⟨by rfl, ?hy5_13⟩) hS2 ?rest5_13
      case hy5_13 =>
        intro W0 hSw
        obtain ⟨s1, s2, s3, s4⟩ := rowS_cells hSw
        clear hSw
        go_simp
        try with_reducible rfl
      try simp only [Act.put, List.setIfInBounds_toArray, List.set_cons_zero, List.set_cons_succ, i64_w]
      refine Rng.wpAnyH_takeL (i := 15) (v := ?v15_14) rfl (by kernel_rfl) (by kernel_rfl) (by kernel_rfl) (fun _ _ _ h_ => h_) (Or.inl ⟨by rfl, ?hy15_14⟩) hS2 ?rest15_14
      case hy15_14 =>
        intro W0 hSw
        obtain ⟨s1, s2, s3, s4⟩ := rowS_cells hSw
        clear hSw
        go_simp
        try with_reducible rfl
      try simp only [Act.put, List.setIfInBounds_toArray, List.set_cons_zero, List.set_cons_succ, i64_w]
      refine wpAnyH_ready (rs := [16]) (by kernel_rfl) (by simp) ?_
      refine AllReadyH.cons rfl (fun K hK => ?_) AllReadyH.nil
      go_simp
      refine hK.out _ _ (blk_below hS2 (below_alloc (Below.refl _ _) _)) (fun hS1 => ?_)
      clear hK K hS1
      try simp only [Act.put, List.setIfInBounds_toArray, List.set_cons_zero, List.set_cons_succ, i64_w]
      have HBW := Lib.hid (((Below.refl W.heap.size W).drew).trans HB2.out)
      have HNW := Lib.hid (Nat.le_trans HBL.out.size HNN.out)
      have HNK := Lib.hid (show ∀ k_, (some k_ = (.slice A1 x.ws.length c1 : Value).ownBlock ∨ some k_ = (.slice A2 x.raw.length c2 : Value).ownBlock ∨ some k_ = (.slice A3 x.its.length c3 : Value).ownBlock) → N ≤ k_ from fun k_ h_ => h_.elim (fun e_ => Kd.R_base HQ.out.1 k_ e_.symm) (fun h_ => h_.elim (fun e_ => Kd.R_base HQ.out.2.1 k_ e_.symm) (fun e_ => Kd.R_base HQ.out.2.2 k_ e_.symm)))
      refine wpAnyH_ready (rs := [17]) (by kernel_rfl) (by simp) ?_
      refine AllReadyH.cons rfl (fun K hK => ?_) AllReadyH.nil
      refine Kd.S_append_step k33 (w0 := w) w.heap.size (by rfl) (.tmp 20) (.tmp 36) 24 33 (.agg #[.int .i64 0, .int .i64 0, .int .i64 0, .slice none 0 0, .slice none 0 0, .slice none 0 0]) 96 rfl Try.underlying24 rowsInfo rfl (by decide) (by omega) (.slice Av acc.length cv) acc (⟨x.at_, wrap64 (x.at_ + s), ⟨x.kind, x.ws, x.raw, x.its⟩⟩ : S33) [.int .i64 x.at_, .int .i64 (wrap64 (x.at_ + s)), .int .i64 x.kind, .slice A1 x.ws.length c1, .slice A2 x.raw.length c2, .slice A3 x.its.length c3] (fun _ => True) (fun k_ => some k_ = (.slice A1 x.ws.length c1 : Value).ownBlock ∨ some k_ = (.slice A2 x.raw.length c2 : Value).ownBlock ∨ some k_ = (.slice A3 x.its.length c3 : Value).ownBlock) rfl rfl (k33_mkM _ _ _ (⟨x.at_, wrap64 (x.at_ + s), ⟨x.kind, x.ws, x.raw, x.its⟩⟩ : S33) (Kd.R_mono (Kd.R_tight rfl (Kd.R_lower (Kd.R_below HQ.out.1 HBW.out) HNW.out)) (fun _ h_ => Or.inl h_)) (Kd.R_mono (Kd.R_tight rfl (Kd.R_lower (Kd.R_below HQ.out.2.1 HBW.out) HNW.out)) (fun _ h_ => Or.inr (Or.inl h_))) (Kd.R_mono (Kd.R_tight rfl (Kd.R_lower (Kd.R_below HQ.out.2.2 HBW.out) HNW.out)) (fun _ h_ => Or.inr (Or.inr h_)))) (fun k_ hk_ => ⟨trivial, fun e_ => Nat.lt_irrefl _ (Nat.lt_of_lt_of_le (HLV.out k_ e_.symm) (HNK.out k_ hk_))⟩) (fun _ _ => trivial) (Kd.S_mono (ok := fun k_ => k_ < N) (Kd.S_below HSS.out HBW.out) (fun k_ hk_ => ⟨trivial, fun h_ => Nat.lt_irrefl _ (Nat.lt_of_lt_of_le hk_ (HNK.out k_ h_))⟩)) (HLW.out.trans (HBW.out.mono HLW.out.size)) (Nat.le_trans HLW.out.size HBW.out.size) (by have := HC4.out; omega) ?_
      intro v1 w5 ho hb hg hat
      obtain ⟨Aw, cw, ev⟩ := Kd.S_slice ho
      rw [show (acc ++ [(⟨x.at_, wrap64 (x.at_ + s), ⟨x.kind, x.ws, x.raw, x.its⟩⟩ : S33)]).length = acc.length + 1 from by simp] at ev
      subst ev
      have sG5 : rowS g (.int .i64 x.kind) (.slice A1 x.ws.length c1) (.slice A2 x.raw.length c2) (.slice A3 x.its.length c3) w5 := blk_grown hS2 hg (Kd.R_ne (Kd.S_R (Kd.S_below HSS.out HBW.out)) hS2 (by decide))
      refine hK.out _ _ (sG5) (fun hS1 => ?_)
      clear hK K hS1
      try simp only [Act.put, List.setIfInBounds_toArray, List.set_cons_zero, List.set_cons_succ, i64_w]
      have q8 := blk_grown (blk_below HB7.out HBW.out) hg (Kd.R_ne (Kd.S_R (Kd.S_below HSS.out HBW.out)) (blk_below HB7.out HBW.out) (by decide))
      have l8 := blk_cell q8 0
      have lf8 := blk_frozen q8 0
      simp at l8
      have HQ8 := Lib.hid q8
      have HO5 := Lib.hid ho
      have HB5 := Lib.hid hb
      have HG5 := Lib.hid hg
      have HS5 := Lib.hid sG5
      clear q8 ho hb hg hat sG5
      refine wpAnyH_ready (rs := [18]) (by kernel_rfl) (by simp) ?_
      refine AllReadyH.cons rfl (fun K hK => ?_) AllReadyH.nil
      go_simp
      refine hK.out _ _ (blk_far (p := ⟨w.heap.size, 0, none⟩) HS5.out HGW.out _) (fun hS1 => ?_)
      clear hK K hS1
      refine wpAnyH_done (by kernel_rfl) ?_ _
      exact HF.out W2 HB2.out Aw cw w5 HO5.out HB5.out HG5.out { tmps := #[], defers := [] }
    · go_simp
      (with_reducible refine (obj_Size.calls k x.kind A1 c1 x.ws A2 c2 x.raw A3 c3 x.its s _ (Kd.C_drew (Kd.R_reads' HQ.out.1).2.2) (Kd.R_reads' HQ.out.1).2.1 (Kd.C_drew (Kd.R_reads' HQ.out.2.1).2.2) (Kd.R_reads' HQ.out.2.1).2.1 (Kd.C_drew (Kd.R_reads' HQ.out.2.2).2.2) (Kd.R_reads' HQ.out.2.2).2.1 HS.out).mono ?_)
      rintro e_ W2 ⟨rfl, hb⟩
      try dsimp only
      have HB2 := Lib.hid hb
      have hS2 : rowS g (.int .i64 x.kind) (.slice A1 x.ws.length c1) (.slice A2 x.raw.length c2) (.slice A3 x.its.length c3) W2 := blk_below hS0 hb
      have j7b := blk_cell (blk_below (blk_drew HB7.out) hb) 0
      simp at j7b
      have j7c : ∀ o : Obj, (W2.alloc o).cell? ⟨w.heap.size, 0, none⟩ = some (.slice Av acc.length cv) := fun o => cell_later (below_alloc (Below.refl _ _) o) j7b
      clear hb
      refine hK.out _ _ (hS2) (fun hS1 => ?_)
      clear hK K hS1
      try simp only [Act.put, List.setIfInBounds_toArray, List.set_cons_zero, List.set_cons_succ, i64_w]
      refine Rng.wpAnyH_takeL (i := 5) (v := ?v5_15) rfl (by kernel_rfl) (by kernel_rfl) (by kernel_rfl) (fun _ _ _ h_ => h_) (Or.inl ⟨by rfl, ?hy5_15⟩) hS2 ?rest5_15
      case hy5_15 =>
        intro W0 hSw
        obtain ⟨s1, s2, s3, s4⟩ := rowS_cells hSw
        clear hSw
        go_simp
        try with_reducible rfl
      try simp only [Act.put, List.setIfInBounds_toArray, List.set_cons_zero, List.set_cons_succ, i64_w]
      refine Rng.wpAnyH_takeL (i := 15) (v := ?v15_16) rfl (by kernel_rfl) (by kernel_rfl) (by kernel_rfl) (fun _ _ _ h_ => h_) (Or.inl ⟨by rfl, ?hy15_16⟩) hS2 ?rest15_16
      case hy15_16 =>
        intro W0 hSw
        obtain ⟨s1, s2, s3, s4⟩ := rowS_cells hSw
        clear hSw
        go_simp
        try with_reducible rfl
      try simp only [Act.put, List.setIfInBounds_toArray, List.set_cons_zero, List.set_cons_succ, i64_w]
      refine wpAnyH_ready (rs := [0, 16]) (by kernel_rfl) (by simp) ?_
      refine AllReadyH.cons rfl (fun K hK => ?_) (AllReadyH.cons rfl (fun K hK => ?_) AllReadyH.nil)
      · go_simp
        refine hK.out _ _ (hS2) (fun hS1 => ?_)
        clear hK K hS1
        try simp only [Act.put, List.setIfInBounds_toArray, List.set_cons_zero, List.set_cons_succ, i64_w]
        refine wpAnyH_ready (rs := [16]) (by kernel_rfl) (by simp) ?_
        refine AllReadyH.cons rfl (fun K hK => ?_) AllReadyH.nil
        go_simp
        refine hK.out _ _ (blk_below hS2 (below_alloc (Below.refl _ _) _)) (fun hS1 => ?_)
        clear hK K hS1
        try simp only [Act.put, List.setIfInBounds_toArray, List.set_cons_zero, List.set_cons_succ, i64_w]
        have HBW := Lib.hid (((Below.refl W.heap.size W).drew).trans HB2.out)
        have HNW := Lib.hid (Nat.le_trans HBL.out.size HNN.out)
        have HNK := Lib.hid (show ∀ k_, (some k_ = (.slice A1 x.ws.length c1 : Value).ownBlock ∨ some k_ = (.slice A2 x.raw.length c2 : Value).ownBlock ∨ some k_ = (.slice A3 x.its.length c3 : Value).ownBlock) → N ≤ k_ from fun k_ h_ => h_.elim (fun e_ => Kd.R_base HQ.out.1 k_ e_.symm) (fun h_ => h_.elim (fun e_ => Kd.R_base HQ.out.2.1 k_ e_.symm) (fun e_ => Kd.R_base HQ.out.2.2 k_ e_.symm)))
        refine wpAnyH_ready (rs := [17]) (by kernel_rfl) (by simp) ?_
        refine AllReadyH.cons rfl (fun K hK => ?_) AllReadyH.nil
        refine Kd.S_append_step k33 (w0 := w) w.heap.size (by rfl) (.tmp 20) (.tmp 36) 24 33 (.agg #[.int .i64 0, .int .i64 0, .int .i64 0, .slice none 0 0, .slice none 0 0, .slice none 0 0]) 96 rfl Try.underlying24 rowsInfo rfl (by decide) (by omega) (.slice Av acc.length cv) acc (⟨x.at_, wrap64 (x.at_ + s), ⟨x.kind, x.ws, x.raw, x.its⟩⟩ : S33) [.int .i64 x.at_, .int .i64 (wrap64 (x.at_ + s)), .int .i64 x.kind, .slice A1 x.ws.length c1, .slice A2 x.raw.length c2, .slice A3 x.its.length c3] (fun _ => True) (fun k_ => some k_ = (.slice A1 x.ws.length c1 : Value).ownBlock ∨ some k_ = (.slice A2 x.raw.length c2 : Value).ownBlock ∨ some k_ = (.slice A3 x.its.length c3 : Value).ownBlock) rfl rfl (k33_mkM _ _ _ (⟨x.at_, wrap64 (x.at_ + s), ⟨x.kind, x.ws, x.raw, x.its⟩⟩ : S33) (Kd.R_mono (Kd.R_tight rfl (Kd.R_lower (Kd.R_below HQ.out.1 HBW.out) HNW.out)) (fun _ h_ => Or.inl h_)) (Kd.R_mono (Kd.R_tight rfl (Kd.R_lower (Kd.R_below HQ.out.2.1 HBW.out) HNW.out)) (fun _ h_ => Or.inr (Or.inl h_))) (Kd.R_mono (Kd.R_tight rfl (Kd.R_lower (Kd.R_below HQ.out.2.2 HBW.out) HNW.out)) (fun _ h_ => Or.inr (Or.inr h_)))) (fun k_ hk_ => ⟨trivial, fun e_ => Nat.lt_irrefl _ (Nat.lt_of_lt_of_le (HLV.out k_ e_.symm) (HNK.out k_ hk_))⟩) (fun _ _ => trivial) (Kd.S_mono (ok := fun k_ => k_ < N) (Kd.S_below HSS.out HBW.out) (fun k_ hk_ => ⟨trivial, fun h_ => Nat.lt_irrefl _ (Nat.lt_of_lt_of_le hk_ (HNK.out k_ h_))⟩)) (HLW.out.trans (HBW.out.mono HLW.out.size)) (Nat.le_trans HLW.out.size HBW.out.size) (by have := HC4.out; omega) ?_
        intro v1 w5 ho hb hg hat
        obtain ⟨Aw, cw, ev⟩ := Kd.S_slice ho
        rw [show (acc ++ [(⟨x.at_, wrap64 (x.at_ + s), ⟨x.kind, x.ws, x.raw, x.its⟩⟩ : S33)]).length = acc.length + 1 from by simp] at ev
        subst ev
        have sG5 : rowS g (.int .i64 x.kind) (.slice A1 x.ws.length c1) (.slice A2 x.raw.length c2) (.slice A3 x.its.length c3) w5 := blk_grown hS2 hg (Kd.R_ne (Kd.S_R (Kd.S_below HSS.out HBW.out)) hS2 (by decide))
        refine hK.out _ _ (sG5) (fun hS1 => ?_)
        clear hK K hS1
        try simp only [Act.put, List.setIfInBounds_toArray, List.set_cons_zero, List.set_cons_succ, i64_w]
        have q8 := blk_grown (blk_below HB7.out HBW.out) hg (Kd.R_ne (Kd.S_R (Kd.S_below HSS.out HBW.out)) (blk_below HB7.out HBW.out) (by decide))
        have l8 := blk_cell q8 0
        have lf8 := blk_frozen q8 0
        simp at l8
        have HQ8 := Lib.hid q8
        have HO5 := Lib.hid ho
        have HB5 := Lib.hid hb
        have HG5 := Lib.hid hg
        have HS5 := Lib.hid sG5
        clear q8 ho hb hg hat sG5
        refine wpAnyH_ready (rs := [18]) (by kernel_rfl) (by simp) ?_
        refine AllReadyH.cons rfl (fun K hK => ?_) AllReadyH.nil
        go_simp
        refine hK.out _ _ (blk_far (p := ⟨w.heap.size, 0, none⟩) HS5.out HGW.out _) (fun hS1 => ?_)
        clear hK K hS1
        refine wpAnyH_done (by kernel_rfl) ?_ _
        exact HF.out W2 HB2.out Aw cw w5 HO5.out HB5.out HG5.out { tmps := #[], defers := [] }
      · go_simp
        refine hK.out _ _ (blk_below hS2 (below_alloc (Below.refl _ _) _)) (fun hS1 => ?_)
        clear hK K hS1
        try simp only [Act.put, List.setIfInBounds_toArray, List.set_cons_zero, List.set_cons_succ, i64_w]
        refine wpAnyH_ready (rs := [0]) (by kernel_rfl) (by simp) ?_
        refine AllReadyH.cons rfl (fun K hK => ?_) AllReadyH.nil
        go_simp
        refine hK.out _ _ (blk_below hS2 (below_alloc (Below.refl _ _) _)) (fun hS1 => ?_)
        clear hK K hS1
        try simp only [Act.put, List.setIfInBounds_toArray, List.set_cons_zero, List.set_cons_succ, i64_w]
        have HBW := Lib.hid (((Below.refl W.heap.size W).drew).trans HB2.out)
        have HNW := Lib.hid (Nat.le_trans HBL.out.size HNN.out)
        have HNK := Lib.hid (show ∀ k_, (some k_ = (.slice A1 x.ws.length c1 : Value).ownBlock ∨ some k_ = (.slice A2 x.raw.length c2 : Value).ownBlock ∨ some k_ = (.slice A3 x.its.length c3 : Value).ownBlock) → N ≤ k_ from fun k_ h_ => h_.elim (fun e_ => Kd.R_base HQ.out.1 k_ e_.symm) (fun h_ => h_.elim (fun e_ => Kd.R_base HQ.out.2.1 k_ e_.symm) (fun e_ => Kd.R_base HQ.out.2.2 k_ e_.symm)))
        refine wpAnyH_ready (rs := [17]) (by kernel_rfl) (by simp) ?_
        refine AllReadyH.cons rfl (fun K hK => ?_) AllReadyH.nil
        refine Kd.S_append_step k33 (w0 := w) w.heap.size (by rfl) (.tmp 20) (.tmp 36) 24 33 (.agg #[.int .i64 0, .int .i64 0, .int .i64 0, .slice none 0 0, .slice none 0 0, .slice none 0 0]) 96 rfl Try.underlying24 rowsInfo rfl (by decide) (by omega) (.slice Av acc.length cv) acc (⟨x.at_, wrap64 (x.at_ + s), ⟨x.kind, x.ws, x.raw, x.its⟩⟩ : S33) [.int .i64 x.at_, .int .i64 (wrap64 (x.at_ + s)), .int .i64 x.kind, .slice A1 x.ws.length c1, .slice A2 x.raw.length c2, .slice A3 x.its.length c3] (fun _ => True) (fun k_ => some k_ = (.slice A1 x.ws.length c1 : Value).ownBlock ∨ some k_ = (.slice A2 x.raw.length c2 : Value).ownBlock ∨ some k_ = (.slice A3 x.its.length c3 : Value).ownBlock) rfl rfl (k33_mkM _ _ _ (⟨x.at_, wrap64 (x.at_ + s), ⟨x.kind, x.ws, x.raw, x.its⟩⟩ : S33) (Kd.R_mono (Kd.R_tight rfl (Kd.R_lower (Kd.R_below HQ.out.1 HBW.out) HNW.out)) (fun _ h_ => Or.inl h_)) (Kd.R_mono (Kd.R_tight rfl (Kd.R_lower (Kd.R_below HQ.out.2.1 HBW.out) HNW.out)) (fun _ h_ => Or.inr (Or.inl h_))) (Kd.R_mono (Kd.R_tight rfl (Kd.R_lower (Kd.R_below HQ.out.2.2 HBW.out) HNW.out)) (fun _ h_ => Or.inr (Or.inr h_)))) (fun k_ hk_ => ⟨trivial, fun e_ => Nat.lt_irrefl _ (Nat.lt_of_lt_of_le (HLV.out k_ e_.symm) (HNK.out k_ hk_))⟩) (fun _ _ => trivial) (Kd.S_mono (ok := fun k_ => k_ < N) (Kd.S_below HSS.out HBW.out) (fun k_ hk_ => ⟨trivial, fun h_ => Nat.lt_irrefl _ (Nat.lt_of_lt_of_le hk_ (HNK.out k_ h_))⟩)) (HLW.out.trans (HBW.out.mono HLW.out.size)) (Nat.le_trans HLW.out.size HBW.out.size) (by have := HC4.out; omega) ?_
        intro v1 w5 ho hb hg hat
        obtain ⟨Aw, cw, ev⟩ := Kd.S_slice ho
        rw [show (acc ++ [(⟨x.at_, wrap64 (x.at_ + s), ⟨x.kind, x.ws, x.raw, x.its⟩⟩ : S33)]).length = acc.length + 1 from by simp] at ev
        subst ev
        have sG5 : rowS g (.int .i64 x.kind) (.slice A1 x.ws.length c1) (.slice A2 x.raw.length c2) (.slice A3 x.its.length c3) w5 := blk_grown hS2 hg (Kd.R_ne (Kd.S_R (Kd.S_below HSS.out HBW.out)) hS2 (by decide))
        refine hK.out _ _ (sG5) (fun hS1 => ?_)
        clear hK K hS1
        try simp only [Act.put, List.setIfInBounds_toArray, List.set_cons_zero, List.set_cons_succ, i64_w]
        have q8 := blk_grown (blk_below HB7.out HBW.out) hg (Kd.R_ne (Kd.S_R (Kd.S_below HSS.out HBW.out)) (blk_below HB7.out HBW.out) (by decide))
        have l8 := blk_cell q8 0
        have lf8 := blk_frozen q8 0
        simp at l8
        have HQ8 := Lib.hid q8
        have HO5 := Lib.hid ho
        have HB5 := Lib.hid hb
        have HG5 := Lib.hid hg
        have HS5 := Lib.hid sG5
        clear q8 ho hb hg hat sG5
        refine wpAnyH_ready (rs := [18]) (by kernel_rfl) (by simp) ?_
        refine AllReadyH.cons rfl (fun K hK => ?_) AllReadyH.nil
        go_simp
        refine hK.out _ _ (blk_far (p := ⟨w.heap.size, 0, none⟩) HS5.out HGW.out _) (fun hS1 => ?_)
        clear hK K hS1
        refine wpAnyH_done (by kernel_rfl) ?_ _
        exact HF.out W2 HB2.out Aw cw w5 HO5.out HB5.out HG5.out { tmps := #[], defers := [] }
  case done =>
    rintro D ys W hD hS ⟨rest, acc, v, h1, h2, b7, hSS, hlow, hn⟩ hK
    have hr : rest = [] := by
      have z := h1
      rw [hS] at z
      exact List.append_right_eq_self.1 z
    subst hr
    unfold rowsL at h2
    have hr1 : acc = r := by cases h2; rfl
    subst hr1
    obtain ⟨Av, cv, rfl⟩ := Kd.S_slice hSS
    have j7 := blk_cell b7 0
    simp at j7
    have HFIN := Lib.hid (And.intro (S_put hSS (.deferred none) hK rfl) (below_put hlow (.deferred none) (Nat.le_trans HBL.out.size hD) hK))
    clear h1 h2 b7 hSS hlow hn hS hD
    gi_wp2
    refine ⟨by simp, .inl ⟨_, _, rfl, run_takeDeferred hK, ?_⟩⟩
    exact ⟨_, results_tmp rfl _ _ _, ⟨.slice Av acc.length cv, rfl, HFIN.out.1, HFIN.out.2⟩⟩
end

-- GIVEN rounds=1 making=1 needs=logbook/scan.All,logbook/obj.Size
def endsL (k : Nat) : List ORow → Int → Option Int
  | [], e => some e
  | r :: t, _ => (obj_Size.f k r.2.1 r.2.2.1 r.2.2.2.1 r.2.2.2.2.1).bind fun s => endsL k t (wrap64 (r.1 + s))
theorem endsL_k (k : Nat) : ∀ (l : List ORow) (e : Int), LeO (endsL k l e) (endsL (k + 1) l e)
  | [], _ => LeO.refl _
  | r :: t, e => LeO.bind (obj_Size.mono _ _ _ _ _) (fun s => endsL_k k t _)
theorem endsL_snoc {k : Nat} {x : ORow} {t : List ORow} {z : Int} : ∀ {a : List ORow} {e : Int}, endsL k (a ++ x :: t) e = some z → ∃ s, obj_Size.f k x.2.1 x.2.2.1 x.2.2.2.1 x.2.2.2.2.1 = some s ∧ endsL k (a ++ [x]) e = some (wrap64 (x.1 + s))
  | [], e, h => by
      obtain ⟨s, h1, h2⟩ := Option.bind_eq_some_iff.1 h
      exact ⟨s, h1, by show (obj_Size.f k _ _ _ _).bind _ = _; rw [h1]; rfl⟩
  | y :: a, e, h => by
      obtain ⟨s, h1, h2⟩ := Option.bind_eq_some_iff.1 h
      obtain ⟨s2, h3, h4⟩ := endsL_snoc (a := a) h2
      exact ⟨s2, h3, by show (obj_Size.f k _ _ _ _).bind _ = _; rw [h1]; exact h4⟩
def scan_Whole.f (k : Nat) (l : List Int) (a1 a2 : Int) : Option Bool :=
  (allL k l a2 k a1).bind fun rows => (endsL k rows a1).bind fun e => some (decide (0 ≤ a1) && (e == a2 && decide (a2 ≤ (l.length : Int))))
theorem allL_mono (l : List Int) (lim a : Int) (k : Nat) : LeO (allL k l lim k a) (allL (k + 1) l lim (k + 1) a) :=
  fun r h => allL_fuel _ _ _ _ _ r (allL_k k l lim k a r h)
theorem scan_Whole.mono : ∀ l a b k, LeO (scan_Whole.f k l a b) (scan_Whole.f (k + 1) l a b) := by
  intro l a b k
  unfold scan_Whole.f
  exact LeO.bind (allL_mono _ _ _ _) (fun rows => LeO.bind (endsL_k k rows a) (fun e => LeO.refl _))
def wholeI (k : Nat) (a1 : Int) (w : World) (n2 : Nat) (pre : List SObj) (W : World) : Prop :=
  ∃ e, endsL k (pre.map SObj.row) a1 = some e ∧ W.heap[w.heap.size]? = some (.cells #[.int .i64 e] 3 (0, 0)) ∧ Below w.heap.size w W ∧ n2 ≤ W.heap.size
theorem wholeI_kept {k : Nat} {a1 : Int} {w : World} {n2 B : Nat} (hB : w.heap.size ≤ B) : Rng.Kept B (wholeI k a1 w n2) :=
  ⟨fun s A A' h hb => by obtain ⟨e, h1, h2, h3, h4⟩ := h; exact ⟨e, h1, blk_below h2 hb, h3.trans (hb.mono h3.size), Nat.le_trans h4 hb.size⟩,
    fun s A l_ o o' h hl ho hc => by obtain ⟨e, h1, h2, h3, h4⟩ := h; exact ⟨e, h1, (put_other ho hc h2).trans h2, below_put h3 o' (Nat.le_trans hB hl) ho, by simpa using h4⟩⟩
section
attribute [local go_sem] Oper.semAt_some
set_option maxRecDepth 100000 in
set_option maxHeartbeats 6400000 in
theorem scan_Whole.calls (k : Nat) (A0 : Option Addr) (c0 : Nat) (l0 : List Int) (a1 a2 : Int) (r : Bool) (w : World) (hr0 : Kd.C (Kd.int .u8) w A0 l0.length l0) (hc0 : l0.length ≤ c0) (h : scan_Whole.f k l0 a1 a2 = some r) :
    Calls Try.prog 8 #[.slice A0 l0.length c0, .int .i64 a1, .int .i64 a2] w fun e w' => e = .returned (.bool r) ∧ Below w.heap.size w w' := by
  obtain ⟨rows, hrows, h⟩ := Option.bind_eq_some_iff.1 h
  obtain ⟨en, hen, h⟩ := Option.bind_eq_some_iff.1 h
  have HRW := Lib.hid hrows
  have HEN := Lib.hid hen
  have HRES := Lib.hid (Option.some.inj h)
  have HR := Lib.hid hr0
  have HC := Lib.hid hc0
  clear hr0 hc0 h hrows hen
  refine (callsIn_wide (n := 3)).1 ?_
  refine callsIn_of_wp_marks Try.func8 rfl trivial ?_ rfl
  simp only [Try.ntmps8, List.size_toArray, List.length_cons, List.length_nil, Nat.reduceAdd, Nat.reduceSub, Array.replicate_succ, Array.replicate_zero, List.push_toArray, List.append_toArray, List.nil_append, List.cons_append]
  gi_wp2_with (refine ⟨trivial, ?_⟩; refine (callsIn_wide.2 (scanAll_calls A0 c0 l0 a1 a2 _)).mono ?_; rintro e w2 ⟨bb, bf, bt, rfl, hb, hf, ht, hl, hbl⟩; have HBX := Lib.hid (And.intro hb (And.intro hf ht)); have HLO := Lib.hid (show w.heap.size < bb ∧ w.heap.size < bf ∧ w.heap.size < bt by simp at hl; omega); have BK := Lib.hid (blk_below (blk_new w _) hbl); have HBL := Lib.hid (((Below.refl w.heap.size w).alloc (Nat.le_refl _) (.cells #[.int .i64 a1] 3)).trans (hbl.mono (by simp))); clear hb hf ht hl hbl)
  refine Rng.wpIn_range rfl (by omega) (gf := 31) (lb := #[.pointer (some ⟨bf, 0, none⟩), .pointer (some ⟨bt, 0, none⟩), .pointer (some ⟨bb, 0, none⟩)]) rfl trivial (enters_of Try.func31 (by kernel_rfl) rfl)
    (all1_seq _ k l0 A0 c0 a1 a2 rows bb bf bt k w w2 HBL.out HBX.out.1 HBX.out.2.1 HBX.out.2.2 HR.out HC.out HRW.out)
    (fun h k => KpS.trans h k) (kpS_put HBL.out.size (blk_lt HBX.out.1) (blk_lt HBX.out.2.1) (blk_lt HBX.out.2.2)) (Below.refl _ _) (fun _ => rfl)
    (wholeI k a1 w w2.heap.size)
    (fun _ _ _ => False)
    (wholeI_kept HBL.out.size)
    (fun c => ⟨fun s A A' h hb => h, fun s A l_ o o' h hl ho hc => h⟩)
    ⟨a1, rfl, BK.out, HBL.out, Nat.le_refl _⟩
    (fun pre x a' W => ∃ g A1 c1 A2 c2 A3 c3, W.heap[g]? = some (.cells #[.int .i64 x.kind, .slice A1 x.ws.length c1, .slice A2 x.raw.length c2, .slice A3 x.its.length c3] 42 (0, 0)) ∧ x.v1 = .slice A1 x.ws.length c1 ∧ x.v2 = .slice A2 x.raw.length c2 ∧ x.v3 = .slice A3 x.its.length c3 ∧ a' = { tmps := #[.slice A0 l0.length c0, .int .i64 a1, .int .i64 a2, undef, undef, undef, .bool false, .pointer (some ⟨w.heap.size, 0, none⟩), .int .i64 x.at_, .pointer (some ⟨g, 0, none⟩), .int .i64 a1, .slice A0 l0.length c0, .int .i64 a1, .int .i64 a2, .func (.func 31) #[] #[.pointer (some ⟨bf, 0, none⟩), .pointer (some ⟨bt, 0, none⟩), .pointer (some ⟨bb, 0, none⟩)], .int .i64 x.at_, .agg #[.int .i64 x.kind, .slice A1 x.ws.length c1, .slice A2 x.raw.length c2, .slice A3 x.its.length c3], undef, undef, undef, undef, undef, undef, undef, undef, undef, undef, undef, undef, undef, undef, undef, undef, undef], defers := [] } ∧
      wholeI k a1 w w2.heap.size pre W ∧ sG rows pre x w2.heap.size W)
    ?ax ?assign ?body ?done ?stop
  case ax =>
    rintro pre x a' W l_ o o' ⟨g, A1, c1, A2, c2, A3, c3, hg, e1, e2, e3, rfl, hI, hG⟩ hl ho hc
    exact ⟨g, A1, c1, A2, c2, A3, c3, (put_other ho hc hg).trans hg, e1, e2, e3, rfl, (wholeI_kept HBL.out.size).put _ _ _ _ _ hI hl ho hc, sG_put hG o' ho hc⟩
  case stop =>
    rintro D c pre W hD hS h hK
    exact h.elim
  case assign =>
    rintro yl pre x Wp W K hIp hbp hGp hK
    have hI := (wholeI_kept HBL.out.size).below _ _ _ hIp hbp
    have hG := sG_lower hGp (show w2.heap.size ≤ Wp.heap.size from by obtain ⟨e_, _, _, _, h_⟩ := hIp; exact h_)
    clear hIp hbp hGp
    obtain ⟨hx, r1, r2, r3⟩ := hG
    obtain ⟨A1, c1, e1⟩ := Kd.R_slice r1
    obtain ⟨A2, c2, e2⟩ := Kd.R_slice r2
    obtain ⟨A3, c3, e3⟩ := Kd.R_slice r3
    have HK := Lib.hid hK
    have HI := Lib.hid hI
    have HG := Lib.hid (show sG rows pre x w2.heap.size W from ⟨hx, r1, r2, r3⟩)
    clear hK hI hx r1 r2 r3
    unfold sEnc
    rw [e1, e2, e3]
    gi_wp2
    have hb := (Below.refl W.heap.size W).alloc (Nat.le_refl _) (.cells #[.int .i64 x.kind, .slice A1 x.ws.length c1, .slice A2 x.raw.length c2, .slice A3 x.its.length c3] 42)
    obtain ⟨e, h1, h2, h3, h4⟩ := HI.out
    exact HK.out _ _ (KeepsOthers.alloc _ _) (KpS.of_below hb h3.size (Nat.lt_of_lt_of_le (blk_lt HBX.out.1) h4) (Nat.lt_of_lt_of_le (blk_lt HBX.out.2.1) h4) (Nat.lt_of_lt_of_le (blk_lt HBX.out.2.2) h4))
      ⟨W.heap.size, A1, c1, A2, c2, A3, c3, blk_new _ _, e1, e2, e3, rfl, (wholeI_kept HBL.out.size).below _ _ _ HI.out hb, sG_below HG.out hb⟩
  case body =>
    rintro yl pre x a' W ⟨g, A1, c1, A2, c2, A3, c3, hg, e1, e2, e3, rfl, ⟨e, h1, h2, h3, h4⟩, hG⟩
    obtain ⟨⟨t, ht⟩, r1, r2, r3⟩ := hG
    rw [e1] at r1
    rw [e2] at r2
    rw [e3] at r3
    obtain ⟨s, hs, hs2⟩ := endsL_snoc (k := k) (a := pre.map SObj.row) (x := x.row) (t := t) (by rw [ht]; exact HEN.out)
    have HS := Lib.hid (show obj_Size.f k x.kind x.ws x.raw x.its = some s from hs)
    have HS2 := Lib.hid hs2
    have HRR := Lib.hid (And.intro r1 (And.intro r2 r3))
    have H2 := Lib.hid h2
    have H3 := Lib.hid h3
    have H4 := Lib.hid h4
    have k0 := blk_cell hg 0
    have k1 := blk_cell hg 1
    have k2 := blk_cell hg 2
    have k3 := blk_cell hg 3
    simp at k0 k1 k2 k3
    clear h1 h2 h3 h4 ht r1 r2 r3 hs hs2 hg
    gi_wp2_with (refine ⟨trivial, ?_⟩; refine (CallsIn.inRound yl (callsIn_wide.2 (obj_Size.calls k x.kind A1 c1 x.ws A2 c2 x.raw A3 c3 x.its s _ (Kd.R_reads' HRR.out.1).2.2 (Kd.R_reads' HRR.out.1).2.1 (Kd.R_reads' HRR.out.2.1).2.2 (Kd.R_reads' HRR.out.2.1).2.1 (Kd.R_reads' HRR.out.2.2).2.2 (Kd.R_reads' HRR.out.2.2).2.1 HS.out))).mono ?_; rintro e_ W2 ⟨rfl, hb⟩; have HB2 := Lib.hid hb; have k7 := blk_cell (blk_below H2.out hb) 0; have f7 := blk_frozen (blk_below H2.out hb) 0; simp at k7; clear hb)
    have n3 := H3.out.trans (HB2.out.mono H3.out.size)
    exact ⟨(Rng.keepsOthers_below HB2.out).trans (KeepsOthers.setCell _ _ _),
      (KpS.of_below HB2.out H3.out.size (Nat.lt_of_lt_of_le (blk_lt HBX.out.1) H4.out) (Nat.lt_of_lt_of_le (blk_lt HBX.out.2.1) H4.out) (Nat.lt_of_lt_of_le (blk_lt HBX.out.2.2) H4.out)).trans
        (KpS.set _ (Nat.le_refl _) (Nat.ne_of_gt HLO.out.1) (Nat.ne_of_gt HLO.out.2.1) (Nat.ne_of_gt HLO.out.2.2) _ _),
      ⟨wrap64 (x.at_ + s), by rw [List.map_append]; exact HS2.out, blk_put (blk_below H2.out HB2.out) 0 _ rfl, n3.setCell (p := ⟨w.heap.size, 0, none⟩) (Nat.le_refl _) _, by simpa [World.setCell] using Nat.le_trans H4.out HB2.out.size⟩⟩
  case done =>
    rintro D ys W hD hS ⟨e, h1, h2, h3, h4⟩ hK
    have hee : e = en := by
      rw [hS, HEN.out] at h1
      exact (Option.some.inj h1).symm
    subst hee
    have k7 := blk_cell h2 0
    simp at k7
    have HFIN := Lib.hid (below_put h3 (.deferred none) (Nat.le_trans HBL.out.size hD) hK)
    clear h1 h2 h3 h4 hS
    by_cases c1 : 0 ≤ a1
    · by_cases c2 : e = a2
      · by_cases c3 : a2 ≤ (l0.length : Int)
        · have hr : r = true := by rw [← HRES.out]; simp [c1, c2, c3]
          have b2 : (e == a2) = true := by simp [c2]
          gi_wp2
          refine ⟨by simp, .inl ⟨_, _, rfl, run_takeDeferred hK, ?_⟩⟩
          refine ⟨_, results_tmp rfl _ _ _, ?_, HFIN.out⟩
          simp [hr, c1, c2, c3]
        · have hr : r = false := by rw [← HRES.out]; simp [c3]
          have b2 : (e == a2) = true := by simp [c2]
          gi_wp2
          refine ⟨by simp, .inl ⟨_, _, rfl, run_takeDeferred hK, ?_⟩⟩
          refine ⟨_, results_tmp rfl _ _ _, ?_, HFIN.out⟩
          simp [hr, c1, c2, c3]
      · have hr : r = false := by rw [← HRES.out]; simp [c2]
        have b2 : (e == a2) = false := by simp [c2]
        gi_wp2
        refine ⟨by simp, .inl ⟨_, _, rfl, run_takeDeferred hK, ?_⟩⟩
        refine ⟨_, results_tmp rfl _ _ _, ?_, HFIN.out⟩
        simp [hr, c1, c2]
    · have hr : r = false := by rw [← HRES.out]; simp [c1]
      gi_wp2
      refine ⟨by simp, .inl ⟨_, _, rfl, run_takeDeferred hK, ?_⟩⟩
      refine ⟨_, results_tmp rfl _ _ _, ?_, HFIN.out⟩
      simp [hr, c1]
end

-- GIVEN rounds=0 making=1 needs=slices.Clone[[]byte,byte]
/-! ### le.Writer: by hand -/
structure Wtr (w : World) (g B : Nat) (l : List Int) : Prop where
  ex : ∃ v, w.heap[g]? = some (.cells #[v] 63 (0, 0)) ∧ Kd.R (Kd.int .u8) 5 w B (fun _ => True) v l
  lo : B ≤ g
theorem Wtr.below {w w1 : World} {g B : Nat} {l : List Int} (h : Wtr w g B l) (hb : Below w.heap.size w w1) : Wtr w1 g B l := by
  obtain ⟨v, hv, ho⟩ := h.ex
  exact ⟨⟨v, blk_below hv hb, Kd.R_below ho hb⟩, h.lo⟩
theorem Wtr.put {w : World} {g B : Nat} {l : List Int} {u v : Value} (hlo : B ≤ g) (hv : w.heap[g]? = some (.cells #[u] 63 (0, 0))) (ho : Kd.R (Kd.int .u8) 5 w B (fun _ => True) v l) : Wtr (w.setCell ⟨g, 0, none⟩ v) g B l :=
  ⟨⟨v, blk_put hv 0 _ rfl, (put_setCell _ ⟨g, 0, none⟩ _).R ho hv (by decide)⟩, hlo⟩
/-- what is neither bytes nor a writer lies as it lay -/
def WKeep (w w' : World) : Prop := ∀ (k : Nat) (cs : Array Value) (t : TypeId), 5 ≠ t → 63 ≠ t → w.heap[k]? = some (.cells cs t (0, 0)) → w'.heap[k]? = some (.cells cs t (0, 0))
theorem WKeep.set {w w1 : World} (h : WKeep w w1) {g : Nat} {cs0 : Array Value} (hv : w1.heap[g]? = some (.cells cs0 63 (0, 0))) (u : Value) : WKeep w (w1.setCell ⟨g, 0, none⟩ u) :=
  fun k cs t h1 h2 hk => (Below.heap_setCell _ _ _ k (blk_ne (h k cs t h1 h2 hk) hv h2.symm)).trans (h k cs t h1 h2 hk)
theorem WKeep.trans {a b c : World} (h : WKeep a b) (k : WKeep b c) : WKeep a c := fun i cs t h1 h2 hi => k i cs t h1 h2 (h i cs t h1 h2 hi)
set_option maxHeartbeats 3200000 in
theorem wRaw_calls (g B : Nat) (l bs : List Int) (A : Option Addr) (c : Nat) (w : World) (hW : Wtr w g B l) (hb : Kd.C (Kd.int .u8) w A bs.length bs) (hl : l.length + bs.length ≤ 140737488355328) (hB : B ≤ w.heap.size) :
    Calls Try.prog 28 #[.pointer (some ⟨g, 0, none⟩), .slice A bs.length c] w fun e w' => e = .returned (.tuple #[]) ∧ Wtr w' g B (l ++ bs) ∧ WKeep w w' ∧ Below B w w' := by
  obtain ⟨⟨v, hv, ho⟩, hlo⟩ := hW
  obtain ⟨A2, c2, rfl⟩ := Kd.R_slice ho
  have HV := Lib.hid hv
  have HO := Lib.hid ho
  have HBS := Lib.hid hb
  have HL := Lib.hid hl
  have HLO := Lib.hid hlo
  have HBB := Lib.hid hB
  have k0 := blk_cell hv 0
  have f0 := blk_frozen hv 0
  simp at k0
  clear hv ho hb hl hlo hB
  go_enter Try.func28, Try.ntmps28
  go_wp2_with (first
    | ((with_reducible refine gate_builtin (b := .append) (xs := #[.tmp 8, .tmp 9]) rfl ?_); at_builtin; refine Kd.R_append_rows (Kd.int .u8) (w0 := w) B rfl (.tmp 8) (.tmp 9) 22 5 (.int .u8 0) 1 rfl Try.underlying22 clone_info rfl (by decide) (by omega) _ l bs _ _ _ (fun _ => True) (fun _ => False) rfl rfl HO.out HBS.out (fun _ _ h => h) (fun _ h => h.elim) (fun _ _ => trivial) (Below.refl _ _) HBB.out (by have := HL.out; omega) ?_; intro v1 w1 ho hb hg hat; obtain ⟨A3, c3, rfl⟩ := Kd.R_slice ho; rw [List.length_append] at ho; have HO1 := Lib.hid ho; have HB1 := Lib.hid hb; have HU1 := Lib.hid (show WKeep w w1 from fun k cs t h1 h2 hk => blk_grown hk hg (Kd.R_ne HO.out hk h1)); have hv1 := blk_grown HV.out hg (Kd.R_ne HO.out HV.out (by decide)); have HV1 := Lib.hid hv1; have k1 := blk_cell hv1 0; have f1 := blk_frozen hv1 0; simp at k1; clear ho hb hg hat hv1))
  refine Go.Great.bodyPost_end0 rfl rfl ?_
  exact ⟨rfl, Wtr.put HLO.out HV1.out HO1.out, HU1.out.set HV1.out _, HB1.out.setCell HLO.out _⟩

-- GIVEN rounds=0 making=1
/-! ### le.Bytes: by hand: a row made with room for eight -/
def leGo : Nat → Int → List Int
  | 0, _ => []
  | k + 1, n => leGo k n ++ [(n / 256 ^ k) % 256]
theorem leGo_len : ∀ (k : Nat) (n : Int), (leGo k n).length = k
  | 0, _ => rfl
  | k + 1, n => by simp [leGo, leGo_len k n]
theorem leGo_next (k : Nat) (n : Int) : n / 256 ^ k / 256 = n / 256 ^ (k + 1) := by
  have hp : (0 : Int) < 256 ^ k := Int.pow_pos (by omega)
  rw [Int.pow_succ, Int.ediv_ediv, if_neg (fun h => absurd h.1 (by omega)), Int.sub_zero]
theorem leGo_in (k : Nat) (n : Int) (h0 : 0 ≤ n) (h1 : n ≤ 18446744073709551615) : 0 ≤ n / 256 ^ k ∧ n / 256 ^ k ≤ 18446744073709551615 := by
  have hp : (0 : Int) < 256 ^ k := Int.pow_pos (by omega)
  exact ⟨Int.ediv_nonneg h0 (Int.le_of_lt hp), Int.le_trans (Int.ediv_le_self _ h0) h1⟩
def le_Bytes.f (a0 : Int) (a1 : Int) : Option (List Int) := if 0 ≤ a0 ∧ a0 ≤ 18446744073709551615 then some (leGo (mn (mx a1 0) 8).toNat a0) else none
theorem le_info : (Try.prog.info? 5).map (fun i => (i.zero, i.size, i.bytes)) = some (some (.int .u8 0), 1, 1) := by kernel_rfl
attribute [local go_sem] max2_int min2_int max_two min_two
set_option maxHeartbeats 3200000 in
theorem le_Bytes.calls (a0 : Int) (a1 : Int) (r1 : List Int) (w : World) (h : le_Bytes.f a0 a1 = some r1) :
    Calls Try.prog 51 #[.int .u64 a0, .int .i64 a1] w fun e w' => ∃ v0_ : Value, e = .returned v0_ ∧ Kd.R (Kd.int .u8) 5 w' w.heap.size (fun _ => True) v0_ r1 ∧ Below w.heap.size w w' := by
  unfold le_Bytes.f at h
  by_cases hb : 0 ≤ a0 ∧ a0 ≤ 18446744073709551615
  case neg => rw [if_neg hb] at h; cases h
  rw [if_pos hb] at h
  have hr := Lib.hid (Option.some.inj h)
  clear h
  obtain ⟨i0, hi, hzz⟩ := Option.map_eq_some_iff.1 le_info
  simp only [Prod.mk.injEq] at hzz
  obtain ⟨hz0, hz1, hz2⟩ := hzz
  obtain ⟨w1, hmk, hown, hgr⟩ := run_make_own (P := Try.prog) (w := w) w.heap.size 22 5 i0 (.int .u8 0) 1 Try.underlying22 hi hz0 hz1 .i64 .i64 8 (by rw [hz2]; decide) (by decide) (Nat.le_refl _)
  have hR : Kd.R (Kd.int .u8) 5 w1 w.heap.size (fun _ => True) (.slice (some ⟨w.heap.size, 0, none⟩) 0 8) [] := ⟨fun _ _ => trivial, [], hown, Reps.none _ _⟩
  have hB : Below w.heap.size w w1 := (Below.refl w.heap.size w).grown (row := none) hgr (Nat.le_refl _) (by simp)
  rw [show ((8 : Nat) : Int) = 8 from rfl] at hmk
  have HR := Lib.hid hR
  have HB := Lib.hid hB
  have HI := Lib.hid hi
  clear hown hgr hR hB hi hz0 hz1 hz2
  by_cases h1 : a1 < 0
  · have hq : (mn (mx a1 0) 8).toNat = 0 := by unfold mn mx; omega
    have HQ := Lib.hid hq
    clear hq
    go_enter Try.func51, Try.ntmps51
    go_wp2
    go_loopw [5, 0, 10] (fun v n i wr => ∃ k : Nat, k ≤ 0 ∧ i = .int .i64 k ∧ n = .int .u64 (a0 / 256 ^ k) ∧ Hid (Kd.R (Kd.int .u8) 5 wr w.heap.size (fun _ => True) v (leGo k a0)) ∧ Hid (Below w.heap.size w wr)) (fun _ _ i _ => 0 - (intOf i).toNat)
    case atStart => exact ⟨0, Nat.zero_le _, rfl, by rw [Int.pow_zero, Int.ediv_one], HR, HB⟩
    case round =>
      obtain ⟨k, hk, rfl, rfl, hv, hbw⟩ := hrel
      by_cases hlt : k < 0
      · exact absurd hlt (Nat.not_lt_zero _)
      · have hge2 : (0 : Int) ≤ (k : Int) := by omega
        have hke : k = 0 := by omega
        go_wp2
        go_ret
        refine ⟨_, rfl, ?_, hbw.out⟩
        rw [← hr.out]
        rw [HQ.out, ← hke]; exact hv.out
  by_cases h2 : 8 < a1
  · have hq : (mn (mx a1 0) 8).toNat = 8 := by unfold mn mx; omega
    have HQ := Lib.hid hq
    have h3 : 0 ≤ a1 := by omega
    clear hq h1
    go_enter Try.func51, Try.ntmps51
    go_wp2
    go_loopw [5, 0, 10] (fun v n i wr => ∃ k : Nat, k ≤ 8 ∧ i = .int .i64 k ∧ n = .int .u64 (a0 / 256 ^ k) ∧ Hid (Kd.R (Kd.int .u8) 5 wr w.heap.size (fun _ => True) v (leGo k a0)) ∧ Hid (Below w.heap.size w wr)) (fun _ _ i _ => 8 - (intOf i).toNat)
    case atStart => exact ⟨0, Nat.zero_le _, rfl, by rw [Int.pow_zero, Int.ediv_one], HR, HB⟩
    case round =>
      obtain ⟨k, hk, rfl, rfl, hv, hbw⟩ := hrel
      by_cases hlt : k < 8
      · have hlt2 : (k : Int) < (8 : Int) := by omega
        have hk8 : k ≤ 8 := by omega
        have hin := leGo_in k a0 hb.1 hb.2
        have HN := Lib.hid (leGo_next k a0)
        have HL : Hid (leGo (k + 1) a0 = leGo k a0 ++ [(a0 / 256 ^ k) % 256]) := Lib.hid rfl
        have HLN := Lib.hid (show ((leGo k a0).length + 1) * 1 ≤ 140737488355328 by rw [leGo_len]; omega)
        generalize hg : a0 / 256 ^ k = c at hin HN HL
        clear hg
        go_wp2_with (at_builtin; refine Kd.R_append (Kd.int .u8) (w0 := w) w.heap.size rfl (.tmp 12) (.tmp 15) 22 5 (.int .u8 0) 1 rfl Try.underlying22 le_info rfl (by decide) (by omega) _ (leGo k a0) (c % 256) [.int .u8 (c % 256)] (fun _ => True) (fun _ => False) rfl rfl rfl (fun _ hk => hk.elim) (fun _ _ => trivial) hv.out hbw.out hbw.out.size HLN.out ?_; intro v1 w1' hv1 hb1 _ _; have HV1 := Lib.hid hv1; have HB1 := Lib.hid hb1; clear hv1 hb1)
        go_roundw
        case rel => exact ⟨k + 1, by omega, by go_num, by rw [HN.out], Lib.hid (by rw [HL.out]; exact HV1.out), HB1⟩
        case measure => simp [intOf]; omega
      · have hge2 : (8 : Int) ≤ (k : Int) := by omega
        have hke : k = 8 := by omega
        go_wp2
        go_ret
        refine ⟨_, rfl, ?_, hbw.out⟩
        rw [← hr.out]
        rw [HQ.out, ← hke]; exact hv.out
  · obtain ⟨m, rfl⟩ := Int.eq_ofNat_of_zero_le (show 0 ≤ a1 by omega)
    have hq : (mn (mx (m : Int) 0) 8).toNat = m := by unfold mn mx; omega
    have HQ := Lib.hid hq
    have h3 : 0 ≤ (m : Int) := by omega
    have h4 : (m : Int) ≤ 8 := by omega
    clear hq h1 h2
    go_enter Try.func51, Try.ntmps51
    go_wp2
    go_loopw [5, 0, 10] (fun v n i wr => ∃ k : Nat, k ≤ m ∧ i = .int .i64 k ∧ n = .int .u64 (a0 / 256 ^ k) ∧ Hid (Kd.R (Kd.int .u8) 5 wr w.heap.size (fun _ => True) v (leGo k a0)) ∧ Hid (Below w.heap.size w wr)) (fun _ _ i _ => m - (intOf i).toNat)
    case atStart => exact ⟨0, Nat.zero_le _, rfl, by rw [Int.pow_zero, Int.ediv_one], HR, HB⟩
    case round =>
      obtain ⟨k, hk, rfl, rfl, hv, hbw⟩ := hrel
      by_cases hlt : k < m
      · have hlt2 : (k : Int) < (m : Int) := by omega
        have hk8 : k ≤ 8 := by omega
        have hin := leGo_in k a0 hb.1 hb.2
        have HN := Lib.hid (leGo_next k a0)
        have HL : Hid (leGo (k + 1) a0 = leGo k a0 ++ [(a0 / 256 ^ k) % 256]) := Lib.hid rfl
        have HLN := Lib.hid (show ((leGo k a0).length + 1) * 1 ≤ 140737488355328 by rw [leGo_len]; omega)
        generalize hg : a0 / 256 ^ k = c at hin HN HL
        clear hg
        go_wp2_with (at_builtin; refine Kd.R_append (Kd.int .u8) (w0 := w) w.heap.size rfl (.tmp 12) (.tmp 15) 22 5 (.int .u8 0) 1 rfl Try.underlying22 le_info rfl (by decide) (by omega) _ (leGo k a0) (c % 256) [.int .u8 (c % 256)] (fun _ => True) (fun _ => False) rfl rfl rfl (fun _ hk => hk.elim) (fun _ _ => trivial) hv.out hbw.out hbw.out.size HLN.out ?_; intro v1 w1' hv1 hb1 _ _; have HV1 := Lib.hid hv1; have HB1 := Lib.hid hb1; clear hv1 hb1)
        go_roundw
        case rel => exact ⟨k + 1, by omega, by go_num, by rw [HN.out], Lib.hid (by rw [HL.out]; exact HV1.out), HB1⟩
        case measure => simp [intOf]; omega
      · have hge2 : (m : Int) ≤ (k : Int) := by omega
        have hke : k = m := by omega
        go_wp2
        go_ret
        refine ⟨_, rfl, ?_, hbw.out⟩
        rw [← hr.out]
        rw [HQ.out, ← hke]; exact hv.out

-- GIVEN rounds=0 making=1 needs=logbook/le.Bytes,(*logbook/le.Writer).Raw
set_option maxHeartbeats 3200000 in
theorem wNum_calls (g B : Nat) (l bs : List Int) (n width : Int) (w : World) (hW : Wtr w g B l) (hb : le_Bytes.f n width = some bs) (hl : l.length + bs.length ≤ 140737488355328) (hB : B ≤ w.heap.size) :
    Calls Try.prog 44 #[.pointer (some ⟨g, 0, none⟩), .int .u64 n, .int .i64 width] w fun e w' => e = .returned (.tuple #[]) ∧ Wtr w' g B (l ++ bs) ∧ WKeep w w' ∧ Below B w w' := by
  obtain ⟨⟨v, hv, ho⟩, hlo⟩ := hW
  obtain ⟨A2, c2, rfl⟩ := Kd.R_slice ho
  have HL := Lib.hid hl
  have HLO := Lib.hid hlo
  have HBY := Lib.hid hb
  have hb0 : Below B w w := Below.refl _ _
  clear hb hl hlo
  go_enter Try.func44, Try.ntmps44
  have HV := Lib.hid hv
  have HO := Lib.hid ho
  have HBZ := Lib.hid hB
  have k0 := blk_cell hv 0
  have f0 := blk_frozen hv 0
  simp at k0
  clear hv ho hB
  go_region_law (first
    | (refine Kd.R_append_rows_step (Kd.int .u8) (w0 := w) B (by rfl) (.tmp 10) (.tmp 13) 22 5 (.int .u8 0) 1 rfl Try.underlying22 clone_info rfl (by decide) (by omega) _ l bs _ _ _ (fun _ => True) (fun _ => False) rfl rfl HO3.out (Kd.R_reads' HOB.out).2.2 (fun _ _ h => h) (fun _ h => h.elim) (fun _ _ => trivial) HB3.out HBZ3.out (by have := HL.out; omega) ?_; intro v1 w4 ho hb hg hat; obtain ⟨A3, c3, rfl⟩ := Kd.R_slice ho; rw [List.length_append] at ho; have HO1 := Lib.hid ho; have HB1 := Lib.hid hb; have HU1 := Lib.hid (show WKeep w w4 from fun k cs t h1 h2 hk => blk_grown (HU3.out k cs t h1 h2 hk) hg (Kd.R_ne HO3.out (HU3.out k cs t h1 h2 hk) h1)); have hv1 := blk_grown HV3.out hg (Kd.R_ne HO3.out HV3.out (by decide)); have HV1 := Lib.hid hv1; have k1 := blk_cell hv1 0; have f1 := blk_frozen hv1 0; simp at k1; clear ho hb hg hat hv1)
    | (go_simp; go_at_call 51; (with_reducible refine (le_Bytes.calls n width bs _ HBY.out).mono ?_); rintro e w3 ⟨v0, rfl, hob, hb3⟩; obtain ⟨A4, c4, rfl⟩ := Kd.R_slice hob; have HOB := Lib.hid hob; have HO3 := Lib.hid (Kd.R_below (Kd.R_drew HO.out) hb3); have hv3 := blk_below (blk_drew HV.out) hb3; have k3 := blk_cell hv3 0; have f3 := blk_frozen hv3 0; simp at k3; have HV3 := Lib.hid hv3; have HU3 := Lib.hid (show WKeep w w3 from fun k cs t h1 h2 hk => blk_below (blk_drew hk) hb3); have HB3 := Lib.hid (hb0.drew.trans (hb3.mono (show B ≤ w.drew.heap.size from HBZ.out))); have HBZ3 := Lib.hid (Nat.le_trans (show B ≤ w.drew.heap.size from HBZ.out) hb3.size); clear hob hb3 hv3))
  all_goals
    refine Go.Great.bodyPost_end0 rfl rfl ?_
    exact ⟨rfl, Wtr.put HLO.out HV1.out HO1.out, HU1.out.set HV1.out _, HB1.out.setCell HLO.out _⟩

-- GIVEN rounds=0 making=1 needs=(*logbook/le.Writer).Num
theorem leGo8_length (n : Int) (hn : 0 ≤ n ∧ n ≤ 18446744073709551615) {bs : List Int} (h : le_Bytes.f n 8 = some bs) : bs.length = 8 := by
  unfold le_Bytes.f at h
  rw [if_pos hn] at h
  cases h
  rfl
def encWords : List Int → Option (List Int)
  | [] => some []
  | n :: r => (le_Bytes.f n 8).bind fun b => (encWords r).bind fun t => some (b ++ t)
theorem encWords_step : ∀ (l : List Int) (k : Nat) (e : List Int), encWords l = some e → k < l.length → ∃ b d, encWords (l.take k) = some d ∧ le_Bytes.f (rd l (k : Int)) 8 = some b ∧ encWords (l.take (k + 1)) = some (d ++ b)
  | [], k, e, h, hk => absurd hk (by simp)
  | n :: r, k, e, h, hk => by
      obtain ⟨b, hb, h⟩ := Option.bind_eq_some_iff.1 h
      obtain ⟨t, ht, h⟩ := Option.bind_eq_some_iff.1 h
      cases k with
      | zero => exact ⟨b, [], rfl, hb, by simp [encWords, hb]⟩
      | succ k =>
        obtain ⟨b2, d, h1, h2, h3⟩ := encWords_step r k t ht (by simpa using hk)
        refine ⟨b2, b ++ d, by simp [encWords, hb, h1], ?_, by simp [encWords, hb, h3]⟩
        have e : rd (n :: r) ((k + 1 : Nat) : Int) = rd r (k : Int) := by
          unfold rd
          rw [Int.toNat_natCast, Int.toNat_natCast]
          rfl
        rw [e]
        exact h2
theorem le8_length {n : Int} {b : List Int} (h : le_Bytes.f n 8 = some b) : b.length = 8 := by
  by_cases hn : 0 ≤ n ∧ n ≤ 18446744073709551615
  · exact leGo8_length n hn h
  · unfold le_Bytes.f at h
    rw [if_neg hn] at h
    cases h
theorem enc_bnd {a n m : Nat} (h : a + 8 * n ≤ 140737488355328) (hm : m < n) : (m : Int) ≤ 140737488355328 := by
  omega
theorem enc_meas {n m : Nat} (hm : m < n) : n - (((m + 1 : Nat) : Int)).toNat < n - ((m : Int)).toNat := by
  rw [Int.toNat_natCast, Int.toNat_natCast]
  omega
theorem enc_room {l d b : List Int} {n m : Nat} (h1 : d.length = 8 * m) (h2 : b.length = 8) (h3 : l.length + 8 * n ≤ 140737488355328) (h4 : m < n) : (l ++ d).length + b.length ≤ 140737488355328 := by
  rw [List.length_append]
  omega
set_option maxHeartbeats 3200000 in
theorem wWords_calls (g B : Nat) (l es : List Int) (A : Option Addr) (c : Nat) (xs : List Int) (w : World) (hW : Wtr w g B l) (hx : ∀ w', WKeep w w' → Below B w w' → Kd.C (Kd.int .u64) w' A xs.length xs) (he : encWords xs = some es) (hl : l.length + 8 * xs.length ≤ 140737488355328) (hB : B ≤ w.heap.size) :
    Calls Try.prog 26 #[.pointer (some ⟨g, 0, none⟩), .slice A xs.length c] w fun e w' => e = .returned (.tuple #[]) ∧ Wtr w' g B (l ++ es) ∧ WKeep w w' ∧ Below B w w' := by
  have HW := Lib.hid hW
  have HX := Lib.hid hx
  have HE := Lib.hid he
  have HL := Lib.hid hl
  have HBZ := Lib.hid hB
  clear hW hx he hl hB
  go_enter Try.func26, Try.ntmps26
  go_wp2
  go_loopw [8] (fun v wr => ∃ (m : Nat) (d : List Int), m ≤ xs.length ∧ v = .int .i64 (m : Int) ∧ Hid (encWords (xs.take m) = some d ∧ d.length = 8 * m) ∧ Hid (Wtr wr g B (l ++ d)) ∧ Hid (WKeep w wr) ∧ Hid (Below B w wr)) (fun v _ => xs.length - (intOf v).toNat)
  case atStart => exact ⟨0, [], Nat.zero_le _, rfl, Lib.hid ⟨rfl, rfl⟩, Lib.hid (by rw [List.append_nil]; exact HW.out), Lib.hid (fun _ _ _ _ _ h => h), Lib.hid (Below.refl _ _)⟩
  case round =>
    obtain ⟨m, d, hm, rfl, hd, hw, hu, hb⟩ := hrel
    by_cases hlt : m < xs.length
    · have hlt2 : (m : Int) < (xs.length : Int) := by omega
      have hm0 : (0 : Int) ≤ (m : Int) := by omega
      have hmb : (m : Int) ≤ 140737488355328 := enc_bnd HL.out hlt
      obtain ⟨b, d2, e1, e2, e3⟩ := encWords_step xs m es HE.out hlt
      have e4 : d2 = d := by
        rw [hd.out.1] at e1
        exact (Option.some.inj e1).symm
      subst e4
      have hlen : b.length = 8 := le8_length e2
      obtain ⟨ad, rfl, hc⟩ := Kd.at_int (HX.out wr hu.out hb.out) (m : Int) hm0 hlt2
      rw [Int.toNat_natCast] at hc
      generalize rd xs (m : Int) = x at hc e2
      have E2 := Lib.hid e2
      have E3 := Lib.hid e3
      have HLN := Lib.hid hlen
      clear e1 e2 e3 hlen
      go_wp2_with (first
        | (go_at_call 44; (with_reducible refine (wNum_calls g B (l ++ d2) b x 8 _ hw.out E2.out (enc_room hd.out.2 HLN.out HL.out hlt) (Nat.le_trans HBZ.out hb.out.size)).mono ?_); rintro e w3 ⟨rfl, hw3, hu3, hb3⟩; have HW3 := Lib.hid hw3; have HU3 := Lib.hid (hu.out.trans hu3); have HB3 := Lib.hid (hb.out.trans hb3); clear hw3 hu3 hb3))
      go_roundw
      case rel => exact ⟨m + 1, d2 ++ b, by omega, by first | rfl | go_num, Lib.hid ⟨E3.out, by rw [List.length_append, hd.out.2, HLN.out]; omega⟩, Lib.hid (by rw [← List.append_assoc]; exact HW3.out), HU3, HB3⟩
      case measure => simp only [intOf]; exact enc_meas hlt
    · have hlt2 : (xs.length : Int) ≤ (m : Int) := by omega
      have hme : m = xs.length := by omega
      have hde : Hid (d = es) := Lib.hid (by have z := hd.out.1; rw [hme, List.take_length, HE.out] at z; exact (Option.some.inj z).symm)
      go_wp2
      refine Go.Great.bodyPost_end0 rfl rfl ?_
      exact ⟨rfl, by rw [← hde.out]; exact hw.out, hu.out, hb.out⟩
theorem wWordsLit_calls (g B s : Nat) (l es : List Int) (x y x' y' : Int) (W : World) (hW : Wtr W g B l) (he : encWords [x, y] = some es) (hl : l.length + 16 ≤ 140737488355328) (hB : B ≤ W.heap.size) (hs : W.heap.size = s) (hx : x' = x) (hy : y' = y) :
    Calls Try.prog 26 #[.pointer (some ⟨g, 0, none⟩), .slice (some ⟨s, 0, none⟩) 2 2] (W.alloc (.cells #[.int .u64 x', .int .u64 y'] 47)) fun e w' => e = .returned (.tuple #[]) ∧ Wtr w' g B (l ++ es) ∧ WKeep W w' ∧ Below B W w' := by
  subst hs hx hy
  have hb := (Below.refl W.heap.size W).alloc (Nat.le_refl _) (.cells #[.int .u64 x', .int .u64 y'] 47)
  refine (wWords_calls g B l es (some ⟨W.heap.size, 0, none⟩) 2 [x', y'] _ (hW.below hb) (fun w' hu _ => C_lit (hu _ _ _ (by decide) (by decide) (heap_alloc_new W (.cells #[.int .u64 x', .int .u64 y'] 47))) (by simp)) he hl (Nat.le_trans hB hb.size)).mono ?_
  rintro e w' ⟨h1, h2, h3, h4⟩
  exact ⟨h1, h2, WKeep.trans (fun k cs t _ _ hk => blk_below hk hb) h3, ((Below.refl B W).alloc hB _).trans h4⟩

end Go.Proofs.Ytldoaommikclbaa.PScanObjects
