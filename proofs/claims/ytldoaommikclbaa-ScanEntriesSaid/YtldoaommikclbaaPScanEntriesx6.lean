-- LAID BY gprint.py: a scratch copy of the print, with functions that this session proved by hand among the printed ones
import Derived.Test.YtldoaommikclbaaPScanEntriesx0
import Derived.Test.YtldoaommikclbaaPScanEntriesx3
import Derived.Test.YtldoaommikclbaaPScanEntriesx5
namespace Go.Proofs.Ytldoaommikclbaa.PScanEntries
open Go.RowKit Go.Proofs.YtldoaommikclbaaW.PrintWords Go.Proofs.YtldoaommikclbaaW.PrintLast Go.Proofs.Ytldoaommikclbaa.Conv Go.Proofs.YtldoaommikclbaaW.PrintMore
attribute [local go_sem] max2_int min2_int max_two min_two max_three min_three max_four min_four gtr_less   -- for this text's walks alone
set_option linter.unusedVariables false
set_option linter.unusedSimpArgs false

-- GIVEN rounds=1 making=1 needs=logbook/scan.All,logbook/scan.Items
def entL (k : Nat) (l : List Int) (a1 : Int) : List ORow → List S57 → Option (List S57 × Bool)
  | [], acc => some (acc, true)
  | r :: t, acc => if r.2.1 = 3 then (scan_Items.f k l a1 r.1 r.2.1 r.2.2.1 r.2.2.2.1 r.2.2.2.2.1).bind fun z => if z.2 = true then (if 4 ≤ r.2.2.1.length ∧ acc.length ≤ 1000000 then entL k l a1 t (acc ++ [⟨rd r.2.2.1 0, rd r.2.2.1 1, rd r.2.2.1 2, rd r.2.2.1 3, z.1⟩]) else none) else some ([], false) else entL k l a1 t acc
theorem entL_k (k : Nat) (l : List Int) (a1 : Int) : ∀ (rows : List ORow) (acc : List S57), LeO (entL k l a1 rows acc) (entL (k + 1) l a1 rows acc)
  | [], _ => LeO.refl _
  | r :: t, acc => by
      unfold entL
      exact LeO.ite (LeO.bind (scan_Items.mono _ _ _ _ _ _ _ _) (fun z => LeO.ite (LeO.ite (entL_k k l a1 t _) (LeO.refl _)) (LeO.refl _))) (entL_k k l a1 t acc)
def scan_Entries.f (k : Nat) (l : List Int) (a1 a2 : Int) : Option (List S57 × Bool) := (allL k l a2 k a1).bind fun rows => entL k l a1 rows []
theorem scan_Entries.mono : ∀ l a b k, LeO (scan_Entries.f k l a b) (scan_Entries.f (k + 1) l a b) := by
  intro l a b k
  unfold scan_Entries.f
  exact LeO.bind (fun r h => allL_fuel _ _ _ _ _ r (allL_k k l b k a r h)) (fun rows => entL_k k l a rows [])
theorem entInfo : (Try.prog.info? 57).map (fun i => (i.zero, i.size, i.bytes)) = some (some (.agg #[.int .u64 0, .int .u64 0, .int .u64 0, .int .u64 0, .slice none 0 0]), 5, 56) := by kernel_rfl
theorem alloc5 (w : World) (a b c d e : Obj) : (((((w.alloc a).alloc b).alloc c).alloc d).alloc e).heap[w.heap.size]? = some a ∧ (((((w.alloc a).alloc b).alloc c).alloc d).alloc e).heap[w.heap.size + 1]? = some b ∧ (((((w.alloc a).alloc b).alloc c).alloc d).alloc e).heap[w.heap.size + 2]? = some c ∧ (((((w.alloc a).alloc b).alloc c).alloc d).alloc e).heap[w.heap.size + 3]? = some d ∧ (((((w.alloc a).alloc b).alloc c).alloc d).alloc e).heap[w.heap.size + 4]? = some e ∧ Below w.heap.size w (((((w.alloc a).alloc b).alloc c).alloc d).alloc e) ∧ (((((w.alloc a).alloc b).alloc c).alloc d).alloc e).heap.size = w.heap.size + 5 := by
  have s1 : (w.alloc a).heap.size = w.heap.size + 1 := World.size_alloc _ _
  have s2 : ((w.alloc a).alloc b).heap.size = w.heap.size + 2 := by rw [World.size_alloc, s1]
  have s3 : (((w.alloc a).alloc b).alloc c).heap.size = w.heap.size + 3 := by rw [World.size_alloc, s2]
  have s4 : ((((w.alloc a).alloc b).alloc c).alloc d).heap.size = w.heap.size + 4 := by rw [World.size_alloc, s3]
  have h0 := blk_new w a
  have h1 := blk_new (w.alloc a) b
  have h2 := blk_new ((w.alloc a).alloc b) c
  have h3 := blk_new (((w.alloc a).alloc b).alloc c) d
  have h4 := blk_new ((((w.alloc a).alloc b).alloc c).alloc d) e
  rw [s1] at h1
  rw [s2] at h2
  rw [s3] at h3
  rw [s4] at h4
  exact ⟨blk_alloc (blk_alloc (blk_alloc (blk_alloc h0 _) _) _) _, blk_alloc (blk_alloc (blk_alloc h1 _) _) _, blk_alloc (blk_alloc h2 _) _, blk_alloc h3 _, h4, below_alloc (below_alloc (below_alloc (below_alloc (below_alloc (Below.refl _ _) a) b) c) d) e, by rw [World.size_alloc, s4]⟩
def entI (k : Nat) (l : List Int) (a1 : Int) (rows : List ORow) (r1 : List S57) (r2 : Bool) (A0 : Option Addr) (c0 : Nat) (w w2 : World) (bb bf bt : Nat) (pre : List SObj) (W : World) : Prop :=
  ∃ rest acc v, pre.map SObj.row ++ rest = rows ∧ entL k l a1 rest acc = some (r1, r2) ∧
    W.heap[w.heap.size]? = some (.cells #[.slice A0 l.length c0] 22 (0, 0)) ∧ W.heap[w.heap.size + 1]? = some (.cells #[.int .i64 a1] 3 (0, 0)) ∧
    W.heap[w.heap.size + 2]? = some (.cells #[.slice none 0 0] 36 (0, 0)) ∧ W.heap[w.heap.size + 3]? = some (.cells #[.bool false] 4 (0, 0)) ∧
    W.heap[w.heap.size + 4]? = some (.cells #[v] 36 (0, 0)) ∧ Kd.S k57 57 W w.heap.size (fun _ => True) v acc ∧ Below w.heap.size w W ∧ KpS w.heap.size bb bf bt w2 W
theorem entI_kept {k : Nat} {l : List Int} {a1 : Int} {rows : List ORow} {r1 : List S57} {r2 : Bool} {A0 : Option Addr} {c0 : Nat} {w w2 : World} {bb bf bt : Nat} (hB : w.heap.size ≤ w2.heap.size) (hb1 : bb < w2.heap.size) (hb2 : bf < w2.heap.size) (hb3 : bt < w2.heap.size) : Rng.Kept w2.heap.size (entI k l a1 rows r1 r2 A0 c0 w w2 bb bf bt) :=
  ⟨fun s A A' h hb => by
      obtain ⟨rest, acc, v, h1, h2, b3, b4, b6, b7, b8, hS, hl, hn⟩ := h
      exact ⟨rest, acc, v, h1, h2, blk_below b3 hb, blk_below b4 hb, blk_below b6 hb, blk_below b7 hb, blk_below b8 hb, Kd.S_below hS hb, hl.trans (hb.mono hl.size), hn.trans (KpS.of_below hb hl.size (Nat.lt_of_lt_of_le hb1 hn.low.size) (Nat.lt_of_lt_of_le hb2 hn.low.size) (Nat.lt_of_lt_of_le hb3 hn.low.size))⟩,
    fun s A l_ o o' h hl_ ho hc => by
      obtain ⟨rest, acc, v, h1, h2, b3, b4, b6, b7, b8, hS, hl, hn⟩ := h
      exact ⟨rest, acc, v, h1, h2, (put_other ho hc b3).trans b3, (put_other ho hc b4).trans b4, (put_other ho hc b6).trans b6, (put_other ho hc b7).trans b7, (put_other ho hc b8).trans b8, S_put hS o' ho hc, below_put hl o' (Nat.le_trans hB hl_) ho, hn.trans (kpS_put hB hb1 hb2 hb3 A l_ o o' hl_ ho hc)⟩⟩
def entS (g base : Nat) (ok : Nat → Prop) (kind : Int) (ad : Addr) (ws : List Int) (c1 : Nat) (u2 u3 : Value) (W : World) : Prop :=
  W.heap[g]? = some (.cells #[.int .i64 kind, .slice (some ad) ws.length c1, u2, u3] 42 (0, 0)) ∧ Kd.R (Kd.int .u64) 47 W base ok (.slice (some ad) ws.length c1) ws
theorem entS_cells {g base : Nat} {ok : Nat → Prop} {kind : Int} {ad : Addr} {ws : List Int} {c1 : Nat} {u2 u3 : Value} {W : World} (h : entS g base ok kind ad ws c1 u2 u3 W) (h4 : 4 ≤ ws.length) :
    W.cell? ⟨g, 1, none⟩ = some (.slice (some ad) ws.length c1) ∧ W.cell? ad = some (.int .u64 (rd ws 0)) ∧ W.cell? ⟨ad.block, ad.off + 1, none⟩ = some (.int .u64 (rd ws 1)) ∧ W.cell? ⟨ad.block, ad.off + 2, none⟩ = some (.int .u64 (rd ws 2)) ∧ W.cell? ⟨ad.block, ad.off + 3, none⟩ = some (.int .u64 (rd ws 3)) := by
  have HCW := (Kd.R_reads' h.2).2.2
  obtain ⟨ad0, hA, c_0⟩ := Kd.at_int HCW 0 (by omega) (by omega)
  obtain ⟨ad1, hA1, c_1⟩ := Kd.at_int HCW 1 (by omega) (by omega)
  obtain ⟨ad2, hA2, c_2⟩ := Kd.at_int HCW 2 (by omega) (by omega)
  obtain ⟨ad3, hA3, c_3⟩ := Kd.at_int HCW 3 (by omega) (by omega)
  obtain rfl := Option.some.inj hA
  obtain rfl := Option.some.inj hA1
  obtain rfl := Option.some.inj hA2
  obtain rfl := Option.some.inj hA3
  have j1 := blk_cell h.1 1
  simp at j1 c_0 c_1 c_2 c_3
  rw [show ad.add 0 = ad from by cases ad; rfl] at c_0
  simp only [Addr.add, Nat.reduceEqDiff, if_false, reduceIte] at c_1 c_2 c_3
  exact ⟨j1, c_0, c_1, c_2, c_3⟩
theorem entS_below {g base : Nat} {ok : Nat → Prop} {kind : Int} {ad : Addr} {ws : List Int} {c1 : Nat} {u2 u3 : Value} {W W' : World} (h : entS g base ok kind ad ws c1 u2 u3 W) (hb : Below W.heap.size W W') : entS g base ok kind ad ws c1 u2 u3 W' :=
  ⟨blk_below h.1 hb, Kd.R_below h.2 hb⟩
theorem run_loadVar_one {P : Program} (w : World) (g : Nat) (ty : TypeId) (v : Value) (d : TypeDesc) (hc : w.cell? ⟨g, 0, none⟩ = some v) (hu : P.underlying ty = some d) (hd : (match d with | .struct _ | .array _ _ => true | _ => false) = false) :
    (loadVar ty ⟨g, 0, none⟩).run P w = .ok v w := by
  unfold loadVar isAgg
  cases d <;> simp_all [run_underlying hu, go_sem]
theorem results_oo {P : Program} {fn : Func} {p p' : Tmp} {ty ty' : TypeId} (h : fn.results = #[.cell p ty, .cell p' ty']) (tmps : Array Value) (w : World) (g g' : Nat) (v v' : Value) (d d' : TypeDesc)
    (hp : tmps.getD p undef = .pointer (some ⟨g, 0, none⟩)) (hg : w.cell? ⟨g, 0, none⟩ = some v) (hu : P.underlying ty = some d) (hd : (match d with | .struct _ | .array _ _ => true | _ => false) = false)
    (hp' : tmps.getD p' undef = .pointer (some ⟨g', 0, none⟩)) (hg' : w.cell? ⟨g', 0, none⟩ = some v') (hu' : P.underlying ty' = some d') (hd' : (match d' with | .struct _ | .array _ _ => true | _ => false) = false) :
    (results fn tmps).run P w = .ok (.tuple #[v, v']) w := by
  have h1 : tmps[p]?.getD undef = .pointer (some ⟨g, 0, none⟩) := by simpa using hp
  have h2 : tmps[p']?.getD undef = .pointer (some ⟨g', 0, none⟩) := by simpa using hp'
  simp [results, h, h1, h2, asAddr, run_loadVar_one w g ty v d hg hu hd, run_loadVar_one w g' ty' v' d' hg' hu' hd']
def entX (w W : World) : Prop := W.heap[w.heap.size + 2]? = some (.cells #[.slice none 0 0] 36 (0, 0)) ∧ W.heap[w.heap.size + 3]? = some (.cells #[.bool false] 4 (0, 0)) ∧ Below w.heap.size w W
theorem entX_below {w W W' : World} (h : entX w W) (hb : Below W.heap.size W W') : entX w W' := ⟨blk_below h.1 hb, blk_below h.2.1 hb, h.2.2.trans (hb.mono h.2.2.size)⟩
theorem entX_put {w W : World} {l : Nat} {o o' : Obj} (h : entX w W) (hl : w.heap.size ≤ l) (ho : W.heap[l]? = some o) (hc : o.isCells = false) : entX w (W.putObj l o') := ⟨(put_other ho hc h.1).trans h.1, (put_other ho hc h.2.1).trans h.2.1, below_put h.2.2 o' hl ho⟩
section
attribute [local go_sem] Oper.semAt_some
set_option maxRecDepth 100000 in
set_option maxHeartbeats 6400000 in
theorem scan_Entries.calls (k : Nat) (A0 : Option Addr) (c0 : Nat) (l0 : List Int) (a1 a2 : Int) (r1 : List S57) (r2 : Bool) (w : World) (hr0 : Kd.C (Kd.int .u8) w A0 l0.length l0) (hc0 : l0.length ≤ c0) (h : scan_Entries.f k l0 a1 a2 = some (r1, r2)) :
    Calls Try.prog 12 #[.slice A0 l0.length c0, .int .i64 a1, .int .i64 a2] w fun e w' => ∃ v0_ : Value, e = .returned (.tuple #[v0_, .bool r2]) ∧ Kd.S k57 57 w' w.heap.size (fun _ => True) v0_ r1 ∧ Below w.heap.size w w' := by
  obtain ⟨rows, hrows, h⟩ := Option.bind_eq_some_iff.1 h
  have HRW := Lib.hid hrows
  have HEN := Lib.hid h
  have HR := Lib.hid hr0
  have HC := Lib.hid hc0
  clear hr0 hc0 h hrows
  refine (callsIn_wide (n := 3)).1 ?_
  refine callsIn_of_wp_marks Try.func12 rfl trivial ?_ rfl
  simp only [Try.ntmps12, List.size_toArray, List.length_cons, List.length_nil, Nat.reduceAdd, Nat.reduceSub, Array.replicate_succ, Array.replicate_zero, List.push_toArray, List.append_toArray, List.nil_append, List.cons_append]
  have HAL := Lib.hid (alloc5 w (.cells #[.slice A0 l0.length c0] 22) (.cells #[.int .i64 a1] 3) (.cells #[.slice none 0 0] 36) (.cells #[.bool false] 4) (.cells #[.slice none 0 0] 36))
  gi_wp2_with (refine ⟨trivial, ?_⟩; refine (callsIn_wide.2 (scanAll_calls A0 c0 l0 a1 a2 _)).mono ?_; rintro e w2 ⟨bb, bf, bt, rfl, hb, hf, ht, hl, hbl⟩; have HBX := Lib.hid (And.intro hb (And.intro hf ht)); have HLO := Lib.hid (show w.heap.size + 4 < bb ∧ w.heap.size + 4 < bf ∧ w.heap.size + 4 < bt by rw [HAL.out.2.2.2.2.2.2] at hl; omega); have HBL := Lib.hid (HAL.out.2.2.2.2.2.1.trans (hbl.mono HAL.out.2.2.2.2.2.1.size)); have HI := Lib.hid (show entI k l0 a1 rows r1 r2 A0 c0 w w2 bb bf bt [] w2 from ⟨rows, [], _, rfl, HEN.out, blk_below HAL.out.1 hbl, blk_below HAL.out.2.1 hbl, blk_below HAL.out.2.2.1 hbl, blk_below HAL.out.2.2.2.1 hbl, blk_below HAL.out.2.2.2.2.1 hbl, Kd.S_nil _ _ _ _ _, HBL.out, ⟨Below.refl _ _, rfl, rfl, rfl⟩⟩); clear hb hf ht hl hbl)
  refine Rng.wpIn_range rfl (by omega) (gf := 31) (lb := #[.pointer (some ⟨bf, 0, none⟩), .pointer (some ⟨bt, 0, none⟩), .pointer (some ⟨bb, 0, none⟩)]) rfl trivial (enters_of Try.func31 (by kernel_rfl) rfl)
    (all1_seq _ k l0 A0 c0 a1 a2 rows bb bf bt k w w2 HBL.out HBX.out.1 HBX.out.2.1 HBX.out.2.2 HR.out HC.out HRW.out)
    (fun h k => KpS.trans h k) (kpS_put HBL.out.size (blk_lt HBX.out.1) (blk_lt HBX.out.2.1) (blk_lt HBX.out.2.2)) (Below.refl _ _) (fun _ => rfl)
    (entI k l0 a1 rows r1 r2 A0 c0 w w2 bb bf bt)
    (fun c pre W => (c = .ret ∧ r1 = [] ∧ r2 = false) ∧ entX w W)
    (entI_kept HBL.out.size (blk_lt HBX.out.1) (blk_lt HBX.out.2.1) (blk_lt HBX.out.2.2))
    (fun c => ⟨fun s A A' h hb => ⟨h.1, entX_below h.2 hb⟩, fun s A l_ o o' h hl ho hc => ⟨h.1, entX_put h.2 (Nat.le_trans HBL.out.size hl) ho hc⟩⟩)
    HI.out
    (fun pre x a' W => ∃ g A1 c1 A2 c2 A3 c3, W.heap[g]? = some (.cells #[.int .i64 x.kind, .slice A1 x.ws.length c1, .slice A2 x.raw.length c2, .slice A3 x.its.length c3] 42 (0, 0)) ∧ x.v1 = .slice A1 x.ws.length c1 ∧ x.v2 = .slice A2 x.raw.length c2 ∧ x.v3 = .slice A3 x.its.length c3 ∧ a' = { tmps := #[.slice A0 l0.length c0, .int .i64 a1, .int .i64 a2, .pointer (some ⟨w.heap.size, 0, none⟩), .pointer (some ⟨w.heap.size + 1, 0, none⟩), undef, .pointer (some ⟨w.heap.size + 2, 0, none⟩), .pointer (some ⟨w.heap.size + 3, 0, none⟩), .pointer (some ⟨w.heap.size + 4, 0, none⟩), .int .i64 x.at_, .pointer (some ⟨g, 0, none⟩), undef, undef, .slice A0 l0.length c0, .int .i64 a1, .int .i64 a2, (.func (.func 31) #[] #[.pointer (some ⟨bf, 0, none⟩), .pointer (some ⟨bt, 0, none⟩), .pointer (some ⟨bb, 0, none⟩)]), .int .i64 x.at_, (.agg #[.int .i64 x.kind, .slice A1 x.ws.length c1, .slice A2 x.raw.length c2, .slice A3 x.its.length c3]), undef, undef, undef, undef, undef, undef, undef, undef, undef, undef, undef, undef, undef, undef, undef, undef, undef, undef, undef, undef, undef, undef, undef, undef, undef, undef, undef, undef, undef, undef, undef, undef, undef, undef, undef], defers := [] } ∧
      entI k l0 a1 rows r1 r2 A0 c0 w w2 bb bf bt pre W ∧ sG rows pre x w2.heap.size W ∧ w2.heap.size ≤ g)
    ?ax ?assign ?body ?done ?stop
  case ax =>
    rintro pre x a' W l_ o o' ⟨g, A1, c1, A2, c2, A3, c3, hg, e1, e2, e3, rfl, hI, hG, hgl⟩ hl ho hc
    exact ⟨g, A1, c1, A2, c2, A3, c3, (put_other ho hc hg).trans hg, e1, e2, e3, rfl, (entI_kept HBL.out.size (blk_lt HBX.out.1) (blk_lt HBX.out.2.1) (blk_lt HBX.out.2.2)).put _ _ _ _ _ hI hl ho hc, sG_put hG o' ho hc, hgl⟩
  case assign =>
    rintro yl pre x Wp W K hIp hbp hGp hK
    have hI := (entI_kept HBL.out.size (blk_lt HBX.out.1) (blk_lt HBX.out.2.1) (blk_lt HBX.out.2.2)).below _ _ _ hIp hbp
    have hG := sG_lower hGp (show w2.heap.size ≤ Wp.heap.size from by obtain ⟨_, _, _, _, _, _, _, _, _, _, _, _, h_⟩ := hIp; exact h_.low.size)
    clear hIp hbp hGp
    obtain ⟨hx, q1, q2, q3⟩ := hG
    obtain ⟨A1, c1, e1⟩ := Kd.R_slice q1
    obtain ⟨A2, c2, e2⟩ := Kd.R_slice q2
    obtain ⟨A3, c3, e3⟩ := Kd.R_slice q3
    have HK := Lib.hid hK
    have HI2 := Lib.hid hI
    have HG := Lib.hid (show sG rows pre x w2.heap.size W from ⟨hx, q1, q2, q3⟩)
    clear hK hI hx q1 q2 q3
    unfold sEnc
    rw [e1, e2, e3]
    gi_wp2
    have hb := (Below.refl W.heap.size W).alloc (Nat.le_refl _) (.cells #[.int .i64 x.kind, .slice A1 x.ws.length c1, .slice A2 x.raw.length c2, .slice A3 x.its.length c3] 42)
    obtain ⟨rest, acc, v, h1, h2, b3, b4, b6, b7, b8, hS, hlow, hn⟩ := HI2.out
    exact HK.out _ _ (KeepsOthers.alloc _ _) (KpS.of_below hb hlow.size (Nat.lt_of_lt_of_le (blk_lt HBX.out.1) hn.low.size) (Nat.lt_of_lt_of_le (blk_lt HBX.out.2.1) hn.low.size) (Nat.lt_of_lt_of_le (blk_lt HBX.out.2.2) hn.low.size))
      ⟨W.heap.size, A1, c1, A2, c2, A3, c3, blk_new _ _, e1, e2, e3, rfl, (entI_kept HBL.out.size (blk_lt HBX.out.1) (blk_lt HBX.out.2.1) (blk_lt HBX.out.2.2)).below _ _ _ HI2.out hb, sG_below HG.out hb, hn.low.size⟩
  case body =>
    rintro yl pre x a' W ⟨g, A1, c1, A2, c2, A3, c3, hg, e1, e2, e3, rfl, ⟨rest, acc, v, h1, h2, b3, b4, b6, b7, b8, hS, hlow, hn⟩, hG, hgl⟩
    obtain ⟨⟨t, ht⟩, q1, q2, q3⟩ := hG
    rw [e1] at q1
    rw [e2] at q2
    rw [e3] at q3
    have hrest : rest = x.row :: t := List.append_cancel_left (h1.trans ht.symm)
    subst hrest
    have hrows2 : (pre ++ [x]).map SObj.row ++ t = rows := by rw [List.map_append, List.append_assoc]; exact ht
    have HQ := Lib.hid (And.intro q1 (And.intro q2 q3))
    have BB := Lib.hid (And.intro b3 (And.intro b4 (And.intro b6 (And.intro b7 b8))))
    have HSS := Lib.hid hS
    have HLW := Lib.hid hlow
    have HN := Lib.hid hn
    have HG0 := Lib.hid hg
    have HGL := Lib.hid hgl
    have HT := Lib.hid hrows2
    have k0 := blk_cell hg 0
    have k1 := blk_cell hg 1
    have k2 := blk_cell hg 2
    have k3 := blk_cell hg 3
    simp at k0 k1 k2 k3
    have kb := blk_cell b3 0
    have kf := blk_cell b4 0
    simp at kb kf
    clear ht h1 q1 q2 q3 b3 b4 b6 b7 b8 hS hlow hn hg hgl hrows2
    unfold entL at h2
    by_cases hk : x.row.2.1 = 3
    case neg =>
      rw [if_neg hk] at h2
      have H2 := Lib.hid h2
      have hk2 : (x.kind == 3) = false := beq_eq_false_iff_ne.2 hk
      have hk3 : (x.kind != 3) = true := bne_iff_ne.2 hk
      clear h2 hk
      gi_wp2
      exact ⟨KeepsOthers.refl _, ⟨Below.refl _ _, rfl, rfl, rfl⟩, t, acc, v, HT.out, H2.out, BB.out.1, BB.out.2.1, BB.out.2.2.1, BB.out.2.2.2.1, BB.out.2.2.2.2, HSS.out, HLW.out, HN.out⟩
    case pos =>
      rw [if_pos hk] at h2
      obtain ⟨⟨its, iok⟩, hz, h3⟩ := Option.bind_eq_some_iff.1 h2
      have HZ := Lib.hid (show scan_Items.f k l0 a1 x.at_ x.kind x.ws x.raw x.its = some (its, iok) from hz)
      have hk2 : (x.kind == 3) = true := beq_iff_eq.2 hk
      have hk3 : (x.kind != 3) = false := bne_eq_false_iff_eq.2 hk
      dsimp only at h3
      clear h2 hz hk
      cases iok with
      | false =>
        rw [if_neg (by decide)] at h3
        have hr1 : r1 = [] := by cases h3; rfl
        have hr2 : r2 = false := by cases h3; rfl
        have HRE := Lib.hid (And.intro hr1 hr2)
        clear h3 hr1 hr2
        gi_wp2_with (refine ⟨trivial, ?_⟩; refine (CallsIn.inRound yl (callsIn_wide.2 (scan_Items.calls k A0 c0 l0 a1 x.at_ x.kind A1 c1 x.ws A2 c2 x.raw A3 c3 x.its its false _ (Kd.C_below HR.out HLW.out) HC.out (Kd.R_reads' HQ.out.1).2.2 (Kd.R_reads' HQ.out.1).2.1 (Kd.R_reads' HQ.out.2.1).2.2 (Kd.R_reads' HQ.out.2.1).2.1 (Kd.R_reads' HQ.out.2.2).2.2 (Kd.R_reads' HQ.out.2.2).2.1 HZ.out))).mono ?_; rintro e_ W2 ⟨vi, rfl, hoi, hb⟩; have HB2 := Lib.hid hb; have k6 := blk_cell (blk_below BB.out.2.2.1 hb) 0; have f6 := blk_frozen (blk_below BB.out.2.2.1 hb) 0; have k7 := blk_cell (blk_below BB.out.2.2.2.1 hb) 0; have f7 := blk_frozen (blk_below BB.out.2.2.2.1 hb) 0; simp at k6 k7; clear hb hoi)
        have b6 := blk_far (p := ⟨w.heap.size + 3, 0, none⟩) (blk_put (blk_below BB.out.2.2.1 HB2.out) 0 (.slice none 0 0) rfl) (show w.heap.size + 2 ≠ w.heap.size + 3 by omega) (.bool false)
        have b7 := blk_put (blk_far (p := ⟨w.heap.size + 2, 0, none⟩) (blk_below BB.out.2.2.2.1 HB2.out) (show w.heap.size + 3 ≠ w.heap.size + 2 by omega) (.slice none 0 0)) 0 (.bool false) rfl
        exact ⟨(Rng.keepsOthers_below HB2.out).trans ((KeepsOthers.setCell _ _ _).trans (KeepsOthers.setCell _ _ _)), ⟨rfl, HRE.out⟩, b6, b7,
          ((HLW.out.trans (HB2.out.mono HLW.out.size)).setCell (p := ⟨w.heap.size + 2, 0, none⟩) (show w.heap.size ≤ w.heap.size + 2 by omega) _).setCell (p := ⟨w.heap.size + 3, 0, none⟩) (show w.heap.size ≤ w.heap.size + 3 by omega) _⟩
      | true =>
        rw [if_pos rfl] at h3
        by_cases hc4 : 4 ≤ x.row.2.2.1.length ∧ acc.length ≤ 1000000
        case neg => rw [if_neg hc4] at h3; cases h3
        rw [if_pos hc4] at h3
        have H3 := Lib.hid h3
        have HC4 := Lib.hid hc4
        clear h3 hc4
        gi_wp2_with (refine ⟨trivial, ?_⟩; refine (CallsIn.inRound yl (callsIn_wide.2 (scan_Items.calls k A0 c0 l0 a1 x.at_ x.kind A1 c1 x.ws A2 c2 x.raw A3 c3 x.its its true _ (Kd.C_below HR.out HLW.out) HC.out (Kd.R_reads' HQ.out.1).2.2 (Kd.R_reads' HQ.out.1).2.1 (Kd.R_reads' HQ.out.2.1).2.2 (Kd.R_reads' HQ.out.2.1).2.1 (Kd.R_reads' HQ.out.2.2).2.2 (Kd.R_reads' HQ.out.2.2).2.1 HZ.out))).mono ?_; rintro e_ W2 ⟨vi, rfl, hoi, hb⟩; obtain ⟨Ai, ci, rfl⟩ := Kd.R_slice hoi; have HB2 := Lib.hid hb; have HOI := Lib.hid hoi; clear hb hoi)
        have n1 := HC4.out.1
        have hw4 : 4 ≤ x.ws.length := n1
        have hlow2 := HLW.out.trans (HB2.out.mono HLW.out.size)
        obtain ⟨Av, cv, hv⟩ := Kd.S_slice HSS.out
        subst hv
        obtain ⟨ad, hA, _⟩ := Kd.at_int (Kd.R_reads' HQ.out.1).2.2 0 (by omega) (by omega)
        subst hA
        have B82 := blk_below BB.out.2.2.2.2 HB2.out
        have j8 := blk_cell B82 0
        have f8 := blk_frozen B82 0
        simp at j8
        have HLOW2 := Lib.hid hlow2
        have HSS2 := Lib.hid (Kd.S_below HSS.out HB2.out)
        have BB8 := Lib.hid B82
        have HW4 := Lib.hid hw4
        have hS0 : entS g w2.heap.size (fun k_ => some k_ ≠ x.v3.ownBlock) x.kind ad x.ws c1 (.slice A2 x.raw.length c2) (.slice A3 x.its.length c3) W2.drew :=
          ⟨blk_drew (blk_below HG0.out HB2.out), Kd.R_drew (Kd.R_below HQ.out.1 HB2.out)⟩
        have hbs := Kd.R_base HOI.out
        have hlt8 := Kd.S_lt HSS.out
        have hne : ∀ k_, some k_ = (.slice Ai its.length ci : Value).ownBlock → some k_ ≠ (Value.slice Av acc.length cv).ownBlock := fun k_ h1 h2 => by
          have a1 := hbs k_ h1.symm
          have a2 := hlt8 k_ h2.symm
          omega
        have HNE := Lib.hid hne
        have HL8 := Lib.hid hlt8
        have HBS := Lib.hid hbs
        have hgw : g ≠ w.heap.size + 4 := by
          have := HGL.out
          have := blk_lt HBX.out.1
          have := HLO.out.1
          omega
        have HGW := Lib.hid hgw
        have hfin : ∀ (Aw : Option Addr) (cw : Nat) (w5 : World), Kd.S k57 57 w5 w.heap.size (fun _ => True) (.slice Aw (acc.length + 1) cw) (acc ++ [(⟨rd x.ws 0, rd x.ws 1, rd x.ws 2, rd x.ws 3, its⟩ : S57)]) → Below w.heap.size w w5 → W2.drew.grownBy w5 (Value.slice Av acc.length cv).ownBlock →
            ∀ a_ : Act, Rng.post (KpS w.heap.size bb bf bt) (entI k l0 a1 rows r1 r2 A0 c0 w w2 bb bf bt) (fun c pre W => (c = .ret ∧ r1 = [] ∧ r2 = false) ∧ entX w W) (pre ++ [x]) W .normal a_ (w5.setCell ⟨w.heap.size + 4, 0, none⟩ (.slice Aw (acc.length + 1) cw)) := by
          intro Aw cw w5 ho hb hg a_
          have HO5 := Lib.hid ho
          have HB5 := Lib.hid hb
          have HG5 := Lib.hid hg
          have Q8 := Lib.hid (blk_grown (blk_drew BB8.out) hg (Kd.R_ne (Kd.S_R (Kd.S_drew HSS2.out)) (blk_drew BB8.out) (by decide)))
          have hty := Kd.S_typed (Kd.S_drew HSS2.out)
          have hne0 : ∀ {g_ : Nat} {cs_ : Array Value} {t_ : TypeId}, W2.heap[g_]? = some (.cells cs_ t_ (0, 0)) → 57 ≠ t_ → some g_ ≠ (Value.slice Av acc.length cv).ownBlock := fun h_ ht_ => Kd.R_ne (Kd.S_R HSS2.out) h_ ht_
          have p3 := blk_below BB.out.1 HB2.out
          have p4 := blk_below BB.out.2.1 HB2.out
          have p6 := blk_below BB.out.2.2.1 HB2.out
          have p7 := blk_below BB.out.2.2.2.1 HB2.out
          have pb := blk_below (HN.out.b.trans HBX.out.1) HB2.out
          have pf := blk_below (HN.out.f.trans HBX.out.2.1) HB2.out
          have pt := blk_below (HN.out.t.trans HBX.out.2.2) HB2.out
          have ho5 := HO5.out
          have kA := KpS.of_below (n₀ := w.heap.size) (bb := bb) (bf := bf) (bt := bt) HB2.out HLW.out.size (blk_lt (HN.out.b.trans HBX.out.1)) (blk_lt (HN.out.f.trans HBX.out.2.1)) (blk_lt (HN.out.t.trans HBX.out.2.2))
          have kB : KpS w.heap.size bb bf bt W2 w5 :=
            ⟨(Below.refl w.heap.size W2).drew.trans ((Below.refl w.heap.size W2.drew).grown HG5.out HLOW2.out.size (fun k_ e_ => Kd.S_base HSS2.out k_ e_)),
              HG5.out.block bb (blk_lt pb) (hne0 pb (by decide)), HG5.out.block bf (blk_lt pf) (hne0 pf (by decide)), HG5.out.block bt (blk_lt pt) (hne0 pt (by decide))⟩
          have kC : KpS w.heap.size bb bf bt W (w5.setCell ⟨w.heap.size + 4, 0, none⟩ (.slice Aw (acc.length + 1) cw)) :=
            kA.trans (kB.trans (KpS.set w5 (Nat.le_add_right _ _) (Nat.ne_of_gt HLO.out.1) (Nat.ne_of_gt HLO.out.2.1) (Nat.ne_of_gt HLO.out.2.2) 0 _))
          exact ⟨(Rng.keepsOthers_below HB2.out).trans ((KeepsOthers.drew W2).trans ((KeepsOthers.of_grownBy HG5.out (fun j o hj ho => by obtain ⟨cells, hc⟩ := hty j hj; rw [hc] at ho; injection ho with ho; rw [← ho]; rfl)).trans (KeepsOthers.setCell _ _ _))), kC,
            t, _, _, HT.out, H3.out, blk_far (p := ⟨w.heap.size + 4, 0, none⟩) (blk_grown (blk_drew p3) HG5.out (hne0 p3 (by decide))) (show w.heap.size ≠ w.heap.size + 4 by omega) _,
            blk_far (p := ⟨w.heap.size + 4, 0, none⟩) (blk_grown (blk_drew p4) HG5.out (hne0 p4 (by decide))) (show w.heap.size + 1 ≠ w.heap.size + 4 by omega) _,
            blk_far (p := ⟨w.heap.size + 4, 0, none⟩) (blk_grown (blk_drew p6) HG5.out (hne0 p6 (by decide))) (show w.heap.size + 2 ≠ w.heap.size + 4 by omega) _,
            blk_far (p := ⟨w.heap.size + 4, 0, none⟩) (blk_grown (blk_drew p7) HG5.out (hne0 p7 (by decide))) (show w.heap.size + 3 ≠ w.heap.size + 4 by omega) _,
            blk_put Q8.out 0 _ rfl, Kd.S_set ho5 Q8.out (by decide) 0 _, HB5.out.setCell (p := ⟨w.heap.size + 4, 0, none⟩) (Nat.le_add_right _ _) _, HN.out.trans kC⟩
        have HF := Lib.hid hfin
        have hu29 := Try.underlying29
        have hu57 := Try.underlying57
        have hu47 := Try.underlying47
        clear hlow2 n1 kb kf k0 k1 k2 k3 hbs hlt8 hne hgw hfin B82
        have i0 : (0 : Int) < (x.ws.length : Int) := by omega
        have i1 : (1 : Int) < (x.ws.length : Int) := by omega
        have i2 : (2 : Int) < (x.ws.length : Int) := by omega
        have i3 : (3 : Int) < (x.ws.length : Int) := by omega
        have m0 : 0 < x.ws.length := by omega
        have m1 : 1 < x.ws.length := by omega
        have m2 : 2 < x.ws.length := by omega
        have m3 : 3 < x.ws.length := by omega
        clear hw4
        refine Rng.wpIn_round_held (S := entS g w2.heap.size (fun k_ => some k_ ≠ x.v3.ownBlock) x.kind ad x.ws c1 (.slice A2 x.raw.length c2) (.slice A3 x.its.length c3)) yl (by kernel_rfl) (Rng.noDefer_spec (by kernel_rfl)) (fun h_ => by obtain ⟨_, _, h_⟩ := h_; exact h_) ?_
        show wpAnyH _ _ _ _ _ 22 (Array.replicate 22 false) _ _
        refine Rng.wpAnyH_takeL (i := 1) (v := ?v1) rfl (by kernel_rfl) (by kernel_rfl) (by kernel_rfl) (fun _ _ _ h_ => h_) (Or.inl ⟨by rfl, ?hy1⟩) hS0 ?rest1
        case hy1 =>
          intro W0 hSw
          obtain ⟨s1, s2, s3, s4, s5⟩ := entS_cells hSw HW4.out
          clear hSw
          go_simp
          try with_reducible rfl
        try simp only [Act.put, List.setIfInBounds_toArray, List.set_cons_zero, List.set_cons_succ]
        refine Rng.wpAnyH_takeL (i := 2) (v := ?v2) rfl (by kernel_rfl) (by kernel_rfl) (by kernel_rfl) (fun _ _ _ h_ => h_) (Or.inl ⟨by rfl, ?hy2⟩) hS0 ?rest2
        case hy2 =>
          intro W0 hSw
          obtain ⟨s1, s2, s3, s4, s5⟩ := entS_cells hSw HW4.out
          clear hSw
          go_simp
          try with_reducible rfl
        try simp only [Act.put, List.setIfInBounds_toArray, List.set_cons_zero, List.set_cons_succ]
        refine Rng.wpAnyH_takeL (i := 3) (v := ?v3) rfl (by kernel_rfl) (by kernel_rfl) (by kernel_rfl) (fun _ _ _ h_ => h_) (Or.inl ⟨by rfl, ?hy3⟩) hS0 ?rest3
        case hy3 =>
          intro W0 hSw
          obtain ⟨s1, s2, s3, s4, s5⟩ := entS_cells hSw HW4.out
          clear hSw
          go_simp
          try with_reducible rfl
        try simp only [Act.put, List.setIfInBounds_toArray, List.set_cons_zero, List.set_cons_succ]
        refine Rng.wpAnyH_takeL (i := 4) (v := ?v4) rfl (by kernel_rfl) (by kernel_rfl) (by kernel_rfl) (fun _ _ _ h_ => h_) (Or.inl ⟨by rfl, ?hy4⟩) hS0 ?rest4
        case hy4 =>
          intro W0 hSw
          obtain ⟨s1, s2, s3, s4, s5⟩ := entS_cells hSw HW4.out
          clear hSw
          go_simp
          try with_reducible rfl
        try simp only [Act.put, List.setIfInBounds_toArray, List.set_cons_zero, List.set_cons_succ]
        refine Rng.wpAnyH_takeL (i := 5) (v := ?v5) rfl (by kernel_rfl) (by kernel_rfl) (by kernel_rfl) (fun _ _ _ h_ => h_) (Or.inl ⟨by rfl, ?hy5⟩) hS0 ?rest5
        case hy5 =>
          intro W0 hSw
          obtain ⟨s1, s2, s3, s4, s5⟩ := entS_cells hSw HW4.out
          clear hSw
          go_simp
          try with_reducible rfl
        try simp only [Act.put, List.setIfInBounds_toArray, List.set_cons_zero, List.set_cons_succ]
        refine Rng.wpAnyH_takeL (i := 6) (v := ?v6) rfl (by kernel_rfl) (by kernel_rfl) (by kernel_rfl) (fun _ _ _ h_ => h_) (Or.inl ⟨by rfl, ?hy6⟩) hS0 ?rest6
        case hy6 =>
          intro W0 hSw
          obtain ⟨s1, s2, s3, s4, s5⟩ := entS_cells hSw HW4.out
          clear hSw
          go_simp
          try with_reducible rfl
        try simp only [Act.put, List.setIfInBounds_toArray, List.set_cons_zero, List.set_cons_succ]
        refine Rng.wpAnyH_takeL (i := 7) (v := ?v7) rfl (by kernel_rfl) (by kernel_rfl) (by kernel_rfl) (fun _ _ _ h_ => h_) (Or.inl ⟨by rfl, ?hy7⟩) hS0 ?rest7
        case hy7 =>
          intro W0 hSw
          obtain ⟨s1, s2, s3, s4, s5⟩ := entS_cells hSw HW4.out
          clear hSw
          go_simp
          try with_reducible rfl
        try simp only [Act.put, List.setIfInBounds_toArray, List.set_cons_zero, List.set_cons_succ]
        refine Rng.wpAnyH_takeL (i := 8) (v := ?v8) rfl (by kernel_rfl) (by kernel_rfl) (by kernel_rfl) (fun _ _ _ h_ => h_) (Or.inl ⟨by rfl, ?hy8⟩) hS0 ?rest8
        case hy8 =>
          intro W0 hSw
          obtain ⟨s1, s2, s3, s4, s5⟩ := entS_cells hSw HW4.out
          clear hSw
          go_simp
          try with_reducible rfl
        try simp only [Act.put, List.setIfInBounds_toArray, List.set_cons_zero, List.set_cons_succ]
        refine Rng.wpAnyH_takeL (i := 9) (v := ?v9) rfl (by kernel_rfl) (by kernel_rfl) (by kernel_rfl) (fun _ _ _ h_ => h_) (Or.inl ⟨by rfl, ?hy9⟩) hS0 ?rest9
        case hy9 =>
          intro W0 hSw
          obtain ⟨s1, s2, s3, s4, s5⟩ := entS_cells hSw HW4.out
          clear hSw
          go_simp
          try with_reducible rfl
        try simp only [Act.put, List.setIfInBounds_toArray, List.set_cons_zero, List.set_cons_succ]
        refine Rng.wpAnyH_takeL (i := 10) (v := ?v10) rfl (by kernel_rfl) (by kernel_rfl) (by kernel_rfl) (fun _ _ _ h_ => h_) (Or.inl ⟨by rfl, ?hy10⟩) hS0 ?rest10
        case hy10 =>
          intro W0 hSw
          obtain ⟨s1, s2, s3, s4, s5⟩ := entS_cells hSw HW4.out
          clear hSw
          go_simp
          try with_reducible rfl
        try simp only [Act.put, List.setIfInBounds_toArray, List.set_cons_zero, List.set_cons_succ]
        refine Rng.wpAnyH_takeL (i := 11) (v := ?v11) rfl (by kernel_rfl) (by kernel_rfl) (by kernel_rfl) (fun _ _ _ h_ => h_) (Or.inl ⟨by rfl, ?hy11⟩) hS0 ?rest11
        case hy11 =>
          intro W0 hSw
          obtain ⟨s1, s2, s3, s4, s5⟩ := entS_cells hSw HW4.out
          clear hSw
          go_simp
          try with_reducible rfl
        try simp only [Act.put, List.setIfInBounds_toArray, List.set_cons_zero, List.set_cons_succ]
        refine Rng.wpAnyH_takeL (i := 12) (v := ?v12) rfl (by kernel_rfl) (by kernel_rfl) (by kernel_rfl) (fun _ _ _ h_ => h_) (Or.inl ⟨by rfl, ?hy12⟩) hS0 ?rest12
        case hy12 =>
          intro W0 hSw
          obtain ⟨s1, s2, s3, s4, s5⟩ := entS_cells hSw HW4.out
          clear hSw
          go_simp
          try with_reducible rfl
        try simp only [Act.put, List.setIfInBounds_toArray, List.set_cons_zero, List.set_cons_succ]
        refine Rng.wpAnyH_takeL (i := 13) (v := ?v13) rfl (by kernel_rfl) (by kernel_rfl) (by kernel_rfl) (fun _ _ _ h_ => h_) (Or.inl ⟨by rfl, ?hy13⟩) hS0 ?rest13
        case hy13 =>
          intro W0 hSw
          obtain ⟨s1, s2, s3, s4, s5⟩ := entS_cells hSw HW4.out
          clear hSw
          go_simp
          try with_reducible rfl
        try simp only [Act.put, List.setIfInBounds_toArray, List.set_cons_zero, List.set_cons_succ]
        refine Rng.wpAnyH_takeL (i := 14) (v := ?v14) rfl (by kernel_rfl) (by kernel_rfl) (by kernel_rfl) (fun _ _ _ h_ => h_) (Or.inl ⟨by rfl, ?hy14⟩) hS0 ?rest14
        case hy14 =>
          intro W0 hSw
          obtain ⟨s1, s2, s3, s4, s5⟩ := entS_cells hSw HW4.out
          clear hSw
          go_simp
          try with_reducible rfl
        try simp only [Act.put, List.setIfInBounds_toArray, List.set_cons_zero, List.set_cons_succ]
        refine Rng.wpAnyH_takeL (i := 15) (v := ?v15) rfl (by kernel_rfl) (by kernel_rfl) (by kernel_rfl) (fun _ _ _ h_ => h_) (Or.inl ⟨by rfl, ?hy15⟩) hS0 ?rest15
        case hy15 =>
          intro W0 hSw
          obtain ⟨s1, s2, s3, s4, s5⟩ := entS_cells hSw HW4.out
          clear hSw
          go_simp
          try with_reducible rfl
        try simp only [Act.put, List.setIfInBounds_toArray, List.set_cons_zero, List.set_cons_succ]
        refine Rng.wpAnyH_takeL (i := 16) (v := ?v16) rfl (by kernel_rfl) (by kernel_rfl) (by kernel_rfl) (fun _ _ _ h_ => h_) (Or.inl ⟨by rfl, ?hy16⟩) hS0 ?rest16
        case hy16 =>
          intro W0 hSw
          obtain ⟨s1, s2, s3, s4, s5⟩ := entS_cells hSw HW4.out
          clear hSw
          go_simp
          try with_reducible rfl
        try simp only [Act.put, List.setIfInBounds_toArray, List.set_cons_zero, List.set_cons_succ]
        refine Rng.wpAnyH_takeL (i := 17) (v := ?v17) rfl (by kernel_rfl) (by kernel_rfl) (by kernel_rfl) (fun _ _ _ h_ => h_) (Or.inl ⟨by rfl, ?hy17⟩) hS0 ?rest17
        case hy17 =>
          intro W0 hSw
          obtain ⟨s1, s2, s3, s4, s5⟩ := entS_cells hSw HW4.out
          clear hSw
          go_simp
          try with_reducible rfl
        try simp only [Act.put, List.setIfInBounds_toArray, List.set_cons_zero, List.set_cons_succ]
        refine Rng.wpAnyH_takeL (i := 18) (v := ?v18) rfl (by kernel_rfl) (by kernel_rfl) (by kernel_rfl) (fun _ _ _ h_ => h_) (Or.inl ⟨by rfl, ?hy18⟩) hS0 ?rest18
        case hy18 =>
          intro W0 hSw
          obtain ⟨s1, s2, s3, s4, s5⟩ := entS_cells hSw HW4.out
          clear hSw
          go_simp
          try with_reducible rfl
        try simp only [Act.put, List.setIfInBounds_toArray, List.set_cons_zero, List.set_cons_succ]
        have HSA := Lib.hid (show ∀ w5, W2.drew.grownBy w5 (Value.slice Av acc.length cv).ownBlock → entS g w2.heap.size (fun k_ => some k_ ≠ x.v3.ownBlock) x.kind ad x.ws c1 (.slice A2 x.raw.length c2) (.slice A3 x.its.length c3) w5 from
          fun w5 hg => ⟨blk_grown hS0.1 hg (Kd.R_ne (Kd.S_R (Kd.S_drew HSS2.out)) hS0.1 (by decide)), Kd.R_over' hS0.2 (Kd.S_typed (Kd.S_drew HSS2.out)) (by decide) hg⟩)
        have j8b : ∀ o : Obj, (W2.drew.alloc o).cell? ⟨w.heap.size + 4, 0, none⟩ = some (.slice Av acc.length cv) := fun o => cell_later (below_alloc (Below.refl _ _) o) j8
        have j8c : ∀ o : Obj, (W2.alloc o).drew.cell? ⟨w.heap.size + 4, 0, none⟩ = some (.slice Av acc.length cv) := fun o => j8b o
        have j8d : ∀ o : Obj, (W2.alloc o).cell? ⟨w.heap.size + 4, 0, none⟩ = some (.slice Av acc.length cv) := fun o => j8b o
        refine wpAnyH_ready (rs := [0, 19]) (by kernel_rfl) (by simp) ?_
        refine AllReadyH.cons rfl (fun K hK => ?_) (AllReadyH.cons rfl (fun K hK => ?_) AllReadyH.nil)
        · go_simp
          refine hK.out _ _ (hS0) (fun hS1 => ?_)
          clear hK K hS1
          try simp only [Act.put, List.setIfInBounds_toArray, List.set_cons_zero, List.set_cons_succ]
          refine wpAnyH_ready (rs := [19]) (by kernel_rfl) (by simp) ?_
          refine AllReadyH.cons rfl (fun K hK => ?_) AllReadyH.nil
          go_simp
          refine hK.out _ _ (entS_below hS0 (below_alloc (Below.refl _ _) _)) (fun hS1 => ?_)
          clear hK K hS1
          try simp only [Act.put, List.setIfInBounds_toArray, List.set_cons_zero, List.set_cons_succ]
          refine wpAnyH_ready (rs := [20]) (by kernel_rfl) (by simp) ?_
          refine AllReadyH.cons rfl (fun K hK => ?_) AllReadyH.nil
          refine Kd.S_append_step k57 (w0 := w) w.heap.size (by rfl) (.tmp 32) (.tmp 51) 36 57 (.agg #[.int .u64 0, .int .u64 0, .int .u64 0, .int .u64 0, .slice none 0 0]) 56 rfl Try.underlying36 entInfo rfl (by decide) (by omega) _ acc (⟨rd x.ws 0, rd x.ws 1, rd x.ws 2, rd x.ws 3, its⟩ : S57) [.int .u64 (rd x.ws 0), .int .u64 (rd x.ws 1), .int .u64 (rd x.ws 2), .int .u64 (rd x.ws 3), .slice Ai its.length ci] (fun _ => True) (fun k_ => some k_ = (.slice Ai its.length ci : Value).ownBlock) rfl rfl (k57_mkM _ _ _ (⟨rd x.ws 0, rd x.ws 1, rd x.ws 2, rd x.ws 3, its⟩ : S57) (Kd.R_mono (Kd.R_tight rfl (Kd.R_drew (Kd.R_lower HOI.out HLW.out.size))) (fun _ h_ => h_))) (fun k_ hk_ => ⟨trivial, HNE.out k_ hk_⟩) (fun _ _ => trivial) (Kd.S_drew (Kd.S_mono (Kd.S_old HSS.out HB2.out) (fun k_ hk_ => ⟨trivial, fun e_ => by have := HBS.out k_ e_.symm; have := hk_.2; omega⟩))) HLOW2.out.drew HLOW2.out.size (by have := HC4.out.2; omega) ?_
          intro v1 w5 ho hb hg hat
          obtain ⟨Aw, cw, ev⟩ := Kd.S_slice ho
          rw [show (acc ++ [(⟨rd x.ws 0, rd x.ws 1, rd x.ws 2, rd x.ws 3, its⟩ : S57)]).length = acc.length + 1 from by simp] at ev
          subst ev
          have sG5 := HSA.out _ hg
          refine hK.out _ _ (sG5) (fun hS1 => ?_)
          clear hK K hS1
          try simp only [Act.put, List.setIfInBounds_toArray, List.set_cons_zero, List.set_cons_succ]
          have q8 := blk_grown (blk_drew BB8.out) hg (Kd.R_ne (Kd.S_R (Kd.S_drew HSS2.out)) (blk_drew BB8.out) (by decide))
          have l8 := blk_cell q8 0
          have lf8 := blk_frozen q8 0
          simp at l8
          have HQ8 := Lib.hid q8
          have HO5 := Lib.hid ho
          have HB5 := Lib.hid hb
          have HG5 := Lib.hid hg
          have HS5 := Lib.hid sG5
          clear q8 ho hb hg hat sG5
          refine wpAnyH_ready (rs := [21]) (by kernel_rfl) (by simp) ?_
          refine AllReadyH.cons rfl (fun K hK => ?_) AllReadyH.nil
          go_simp
          refine hK.out _ _ ⟨blk_far (p := ⟨w.heap.size + 4, 0, none⟩) HS5.out.1 HGW.out _, Kd.R_set HS5.out.2 HQ8.out (by decide) 0 _⟩ (fun hS1 => ?_)
          clear hK K hS1
          refine wpAnyH_done (by kernel_rfl) ?_ _
          exact HF.out Aw cw w5 HO5.out HB5.out HG5.out { tmps := #[], defers := [] }
        · go_simp
          refine hK.out _ _ (entS_below hS0 (below_alloc (Below.refl _ _) _)) (fun hS1 => ?_)
          clear hK K hS1
          try simp only [Act.put, List.setIfInBounds_toArray, List.set_cons_zero, List.set_cons_succ]
          refine wpAnyH_ready (rs := [0]) (by kernel_rfl) (by simp) ?_
          refine AllReadyH.cons rfl (fun K hK => ?_) AllReadyH.nil
          go_simp
          refine hK.out _ _ (entS_below hS0 (below_alloc (Below.refl _ _) _)) (fun hS1 => ?_)
          clear hK K hS1
          try simp only [Act.put, List.setIfInBounds_toArray, List.set_cons_zero, List.set_cons_succ]
          refine wpAnyH_ready (rs := [20]) (by kernel_rfl) (by simp) ?_
          refine AllReadyH.cons rfl (fun K hK => ?_) AllReadyH.nil
          refine Kd.S_append_step k57 (w0 := w) w.heap.size (by rfl) (.tmp 32) (.tmp 51) 36 57 (.agg #[.int .u64 0, .int .u64 0, .int .u64 0, .int .u64 0, .slice none 0 0]) 56 rfl Try.underlying36 entInfo rfl (by decide) (by omega) _ acc (⟨rd x.ws 0, rd x.ws 1, rd x.ws 2, rd x.ws 3, its⟩ : S57) [.int .u64 (rd x.ws 0), .int .u64 (rd x.ws 1), .int .u64 (rd x.ws 2), .int .u64 (rd x.ws 3), .slice Ai its.length ci] (fun _ => True) (fun k_ => some k_ = (.slice Ai its.length ci : Value).ownBlock) rfl rfl (k57_mkM _ _ _ (⟨rd x.ws 0, rd x.ws 1, rd x.ws 2, rd x.ws 3, its⟩ : S57) (Kd.R_mono (Kd.R_tight rfl (Kd.R_drew (Kd.R_lower HOI.out HLW.out.size))) (fun _ h_ => h_))) (fun k_ hk_ => ⟨trivial, HNE.out k_ hk_⟩) (fun _ _ => trivial) (Kd.S_drew (Kd.S_mono (Kd.S_old HSS.out HB2.out) (fun k_ hk_ => ⟨trivial, fun e_ => by have := HBS.out k_ e_.symm; have := hk_.2; omega⟩))) HLOW2.out.drew HLOW2.out.size (by have := HC4.out.2; omega) ?_
          intro v1 w5 ho hb hg hat
          obtain ⟨Aw, cw, ev⟩ := Kd.S_slice ho
          rw [show (acc ++ [(⟨rd x.ws 0, rd x.ws 1, rd x.ws 2, rd x.ws 3, its⟩ : S57)]).length = acc.length + 1 from by simp] at ev
          subst ev
          have sG5 := HSA.out _ hg
          refine hK.out _ _ (sG5) (fun hS1 => ?_)
          clear hK K hS1
          try simp only [Act.put, List.setIfInBounds_toArray, List.set_cons_zero, List.set_cons_succ]
          have q8 := blk_grown (blk_drew BB8.out) hg (Kd.R_ne (Kd.S_R (Kd.S_drew HSS2.out)) (blk_drew BB8.out) (by decide))
          have l8 := blk_cell q8 0
          have lf8 := blk_frozen q8 0
          simp at l8
          have HQ8 := Lib.hid q8
          have HO5 := Lib.hid ho
          have HB5 := Lib.hid hb
          have HG5 := Lib.hid hg
          have HS5 := Lib.hid sG5
          clear q8 ho hb hg hat sG5
          refine wpAnyH_ready (rs := [21]) (by kernel_rfl) (by simp) ?_
          refine AllReadyH.cons rfl (fun K hK => ?_) AllReadyH.nil
          go_simp
          refine hK.out _ _ ⟨blk_far (p := ⟨w.heap.size + 4, 0, none⟩) HS5.out.1 HGW.out _, Kd.R_set HS5.out.2 HQ8.out (by decide) 0 _⟩ (fun hS1 => ?_)
          clear hK K hS1
          refine wpAnyH_done (by kernel_rfl) ?_ _
          exact HF.out Aw cw w5 HO5.out HB5.out HG5.out { tmps := #[], defers := [] }
  case done =>
    rintro D ys W hD hS ⟨rest, acc, v, h1, h2, b3, b4, b6, b7, b8, hSS, hlow, hn⟩ hK
    have hr : rest = [] := by
      have z := h1
      rw [hS] at z
      exact List.append_right_eq_self.1 z
    subst hr
    unfold entL at h2
    have hr1 : acc = r1 := by cases h2; rfl
    have hr2 : r2 = true := by cases h2; rfl
    subst hr1
    subst hr2
    obtain ⟨Av, cv, rfl⟩ := Kd.S_slice hSS
    have j8 := blk_cell b8 0
    have j6 := blk_cell b6 0
    have f6 := blk_frozen b6 0
    have j7 := blk_cell b7 0
    have f7 := blk_frozen b7 0
    simp at j8 j6 j7
    have HS1 := Lib.hid (Kd.S_set hSS b6 (by decide) 0 (.slice Av acc.length cv))
    have HB6 := Lib.hid b6
    have HB7 := Lib.hid b7
    have HLW := Lib.hid hlow
    have HD := Lib.hid hD
    clear h1 h2 b3 b4 b6 b7 b8 hSS hlow hn hS hD
    gi_wp2
    have u7 := blk_far (p := ⟨w.heap.size + 2, 0, none⟩) HB7.out (show w.heap.size + 3 ≠ w.heap.size + 2 by omega) (.slice Av acc.length cv)
    have q6 := blk_far (p := ⟨w.heap.size + 3, 0, none⟩) (blk_put HB6.out 0 (.slice Av acc.length cv) rfl) (show w.heap.size + 2 ≠ w.heap.size + 3 by omega) (.bool true)
    have q7 := blk_put u7 0 (.bool true) rfl
    have hK3 := ((KeepsOthers.setCell W ⟨w.heap.size + 2, 0, none⟩ (.slice Av acc.length cv)).trans (KeepsOthers.setCell _ ⟨w.heap.size + 3, 0, none⟩ (.bool true))).same D _ hK rfl
    have s3 := S_put (Kd.S_set HS1.out u7 (by decide) 0 (.bool true)) (.deferred none) hK3 rfl
    have l3 := below_put ((HLW.out.setCell (p := ⟨w.heap.size + 2, 0, none⟩) (Nat.le_add_right _ _) (.slice Av acc.length cv)).setCell (p := ⟨w.heap.size + 3, 0, none⟩) (Nat.le_add_right _ _) (.bool true)) (.deferred none) (Nat.le_trans HBL.out.size HD.out) hK3
    refine ⟨by simp, .inl ⟨_, _, rfl, run_takeDeferred hK3, ?_⟩⟩
    have z6 := (blk_cell ((put_other (o' := .deferred none) hK3 rfl q6).trans q6) 0)
    have z7 := (blk_cell ((put_other (o' := .deferred none) hK3 rfl q7).trans q7) 0)
    exact ⟨_, results_oo rfl _ _ (w.heap.size + 2) (w.heap.size + 3) (.slice Av acc.length cv) (.bool true) _ _ rfl z6 Try.underlying36 rfl rfl z7 Try.underlying4 rfl, ⟨_, rfl, s3, l3⟩⟩
  case stop =>
    rintro D c pre W hD hS ⟨⟨rfl, rfl, rfl⟩, b6, b7, hlow⟩ hK
    gi_wp2
    refine ⟨by simp, .inl ⟨_, _, rfl, run_takeDeferred hK, ?_⟩⟩
    have z6 := (blk_cell ((put_other (o' := .deferred none) hK rfl b6).trans b6) 0)
    have z7 := (blk_cell ((put_other (o' := .deferred none) hK rfl b7).trans b7) 0)
    exact ⟨_, results_oo rfl _ _ (w.heap.size + 2) (w.heap.size + 3) (.slice none 0 0) (.bool false) _ _ rfl z6 Try.underlying36 rfl rfl z7 Try.underlying4 rfl, ⟨_, rfl, Kd.S_nil _ _ _ _ _, below_put hlow (.deferred none) (Nat.le_trans HBL.out.size hD) hK⟩⟩
end

/-! ### logbookref01_Same: function 22 -/
def logbookref01_Same.f (l0 : List Int) (l1 : List Int) : Option (Bool) := some ((strOfNums l0).toList == (strOfNums l1).toList)
set_option maxHeartbeats 8000000 in
set_option maxRecDepth 100000 in
theorem logbookref01_Same.calls (A0 : Option Addr) (c0 : Nat) (l0 : List Int) (A1 : Option Addr) (c1 : Nat) (l1 : List Int) (r : Bool) (w : World) (hr0 : Kd.C (Kd.int .u8) w A0 l0.length l0) (hc0 : l0.length ≤ c0) (hr1 : Kd.C (Kd.int .u8) w A1 l1.length l1) (hc1 : l1.length ≤ c1) (h : logbookref01_Same.f l0 l1 = some r) :
    Calls Try.prog 22 #[.slice A0 l0.length c0, .slice A1 l1.length c1] w fun e w' => e = .returned (.bool r) ∧ Drawn0 w w' := by
  have HR0 := Aside0.mk hr0
  have HC0 := Aside0.mk hc0
  clear hr0 hc0
  have HR1 := Aside0.mk hr1
  have HC1 := Aside0.mk hc1
  clear hr1 hc1
  have H : (some ((strOfNums l0).toList == (strOfNums l1).toList)) = some r := h
  clear h
  obtain rfl := Option.some.inj H
  have hcv3 := Kd.C_string (P := Try.prog) (A := A0) (c := c0) Try.underlying22 Try.underlying5 Try.underlying9 HR0.out
  have hcv4 := Kd.C_string (P := Try.prog) (A := A1) (c := c1) Try.underlying22 Try.underlying5 Try.underlying9 HR1.out
  go_enter Try.func22, Try.ntmps22
  go_wp2
  go_ret
  exact ⟨by first | rfl | (simp; done) | (simp [*]; done) | exact isEmpty_bne _, by repeat (first | exact Drawn0.refl _ | apply Drawn0.step)⟩

end Go.Proofs.Ytldoaommikclbaa.PScanEntries
