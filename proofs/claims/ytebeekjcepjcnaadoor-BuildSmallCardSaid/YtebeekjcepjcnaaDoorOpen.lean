/-
  Facts as an argument: opened to data, and shut again; the table of package icmp, read off the heap as it was laid.
-/
import Derived.Test.YtebeekjcepjcnaaDoorRows
import Derived.Test.YtebeekjcepjcnaaDoorAwake
import Derived.ProofKit
import Derived.LaidMore
import Derived.OpenShut
import Derived.Lay
import Derived.Deep.Strs
namespace Go.Proofs.YtebeekjcepjcnaaDoor
open Go.ChangeShapes Go.WideShapes Go.ChangeAt Go.RowKit

section
variable {H : Type} {enc : TypeId × Value → H} {w : World} {base : Nat} {spare : Nat → Bool} {held : Bool}
def Key.dat (k : Key) : DataW H := .agg [.lit (.int .u8 k.proto), .lit (.int .u32 k.src), .lit (.int .u32 k.dst), .lit (.int .u16 k.sp), .lit (.int .u16 k.dp)]
def Facts.dat (f : Facts) : DataW H := .agg [f.key.dat, .lit (.int .u8 f.kind), .lit (.int .u8 f.flags), .lit (.int .u8 f.type), .lit (.int .u8 f.code), .lit (.int .u32 f.seqn), .lit (.int .u32 f.ackn), .lit (.int .i64 f.window), .lit (.int .i64 f.length), f.quoted.dat, .lit (.int .u8 f.qkind)]
theorem wf_u8 {n : Int} : (Lit.int .u8 n).wf = true ↔ 0 ≤ n ∧ n < 256 := by simp [Lit.wf, IntKind.min, IntKind.max, IntKind.signed, IntKind.bits]; omega
theorem wf_u16 {n : Int} : (Lit.int .u16 n).wf = true ↔ 0 ≤ n ∧ n < 65536 := by simp [Lit.wf, IntKind.min, IntKind.max, IntKind.signed, IntKind.bits]; omega
theorem wf_u32 {n : Int} : (Lit.int .u32 n).wf = true ↔ 0 ≤ n ∧ n < 4294967296 := by simp [Lit.wf, IntKind.min, IntKind.max, IntKind.signed, IntKind.bits]; omega
theorem wf_i64 {n : Int} : (Lit.int .i64 n).wf = true ↔ -9223372036854775808 ≤ n ∧ n ≤ 9223372036854775807 := by simp [Lit.wf, IntKind.min, IntKind.max, IntKind.signed, IntKind.bits]
theorem cOne8 : Tryd.prog.cellsOf 5 = 1 := by kernel_rfl
theorem cOne16 : Tryd.prog.cellsOf 23 = 1 := by kernel_rfl
theorem cOne32 : Tryd.prog.cellsOf 22 = 1 := by kernel_rfl
theorem cOneI : Tryd.prog.cellsOf 3 = 1 := by kernel_rfl
theorem cKey : Tryd.prog.cellsOf 25 = 5 := by kernel_rfl
theorem cFacts : Tryd.prog.cellsOf 27 = 19 := by kernel_rfl
/-- One number among the cells. -/
theorem one_int {t : TypeId} {k : IntKind} {n off : Nat} {cs : List Value} {c : Value} {y : DataW H × List MemPlace} (ht : Tryd.prog.underlying t = some (.int k)) (hc : Tryd.prog.cellsOf t = 1) (h1 : (cs.drop off).take 1 = [c])
    (h : DataW.trod enc Tryd.prog w base spare held n t ((cs.drop off).take (Tryd.prog.cellsOf t)) = some y) : ∃ x, c = .int k x ∧ y = (.lit (.int k x), []) ∧ (Lit.int k x).wf = true := by
  rw [hc, h1] at h
  obtain ⟨x, e1, e2, e3⟩ := DataW.trod_int ht h
  simp only [List.cons.injEq, and_true] at e1
  exact ⟨x, e1, e2, e3⟩
theorem open_key_cells {n : Nat} {c0 c1 c2 c3 c4 : Value} {y : DataW H × List MemPlace} (h : DataW.trod enc Tryd.prog w base spare held n 25 [c0, c1, c2, c3, c4] = some y) :
    ∃ k : Key, k.Ok ∧ [c0, c1, c2, c3, c4] = k.cells ∧ y = (k.dat, []) := by
  obtain ⟨xs, m, _, hx, _, hlen, hg⟩ := DataW.trod_struct Tryd.underlying25 h
  match xs, hlen with
  | [y0, y1, y2, y3, y4], _ =>
    obtain ⟨a, rfl, rfl, wa⟩ := one_int Tryd.underlying5 cOne8 rfl (hg 0 _ rfl)
    obtain ⟨b, rfl, rfl, wb⟩ := one_int Tryd.underlying22 cOne32 rfl (hg 1 _ rfl)
    obtain ⟨c, rfl, rfl, wc⟩ := one_int Tryd.underlying22 cOne32 rfl (hg 2 _ rfl)
    obtain ⟨d, rfl, rfl, wd⟩ := one_int Tryd.underlying23 cOne16 rfl (hg 3 _ rfl)
    obtain ⟨e, rfl, rfl, we⟩ := one_int Tryd.underlying23 cOne16 rfl (hg 4 _ rfl)
    rw [wf_u8] at wa
    rw [wf_u32] at wb wc
    rw [wf_u16] at wd we
    exact ⟨⟨a, b, c, d, e⟩, ⟨wa.1, wa.2, wb.1, wb.2, wc.1, wc.2, wd.1, wd.2, we.1, we.2⟩, rfl, hx⟩
set_option maxRecDepth 100000 in
theorem open_facts {r : Reach} {b0 : Nat} {v : Value} {d : DataW H} {p : List MemPlace} (hv : Value.okWide Tryd.prog w r b0 27 v) (h : DataW.Trod enc Tryd.prog w base spare held 27 v d p) :
    ∃ f : Facts, f.Ok ∧ v = f.val ∧ d = f.dat ∧ p = [] := by
  obtain ⟨cs, rfl, hsz⟩ := okWide_struct Tryd.underlying27 hv
  obtain ⟨l⟩ := cs
  match l, hsz.trans cFacts with
  | [c0, c1, c2, c3, c4, c5, c6, c7, c8, c9, c10, c11, c12, c13, c14, c15, c16, c17, c18], _ =>
    obtain ⟨fuel, hf⟩ := h
    obtain ⟨xs, n, _, hx, _, hlen, hg⟩ := DataW.trod_struct Tryd.underlying27 hf
    match xs, hlen with
    | [y0, y1, y2, y3, y4, y5, y6, y7, y8, y9, y10], _ =>
      have h0 : DataW.trod enc Tryd.prog w base spare held n 25 (([c0, c1, c2, c3, c4, c5, c6, c7, c8, c9, c10, c11, c12, c13, c14, c15, c16, c17, c18].drop 0).take (Tryd.prog.cellsOf 25)) = some y0 := hg 0 _ rfl
      have h9 : DataW.trod enc Tryd.prog w base spare held n 25 (([c0, c1, c2, c3, c4, c5, c6, c7, c8, c9, c10, c11, c12, c13, c14, c15, c16, c17, c18].drop 13).take (Tryd.prog.cellsOf 25)) = some y9 := hg 9 _ rfl
      rw [show Tryd.prog.cellsOf 25 = 5 from cKey] at h0 h9
      obtain ⟨k, hk, ek, rfl⟩ := open_key_cells h0
      obtain ⟨q, hq, eq, rfl⟩ := open_key_cells h9
      obtain ⟨v0, rfl, rfl, z0⟩ := one_int Tryd.underlying5 cOne8 rfl (hg 1 _ rfl)
      obtain ⟨v1, rfl, rfl, z1⟩ := one_int Tryd.underlying5 cOne8 rfl (hg 2 _ rfl)
      obtain ⟨v2, rfl, rfl, z2⟩ := one_int Tryd.underlying5 cOne8 rfl (hg 3 _ rfl)
      obtain ⟨v3, rfl, rfl, z3⟩ := one_int Tryd.underlying5 cOne8 rfl (hg 4 _ rfl)
      obtain ⟨v4, rfl, rfl, z4⟩ := one_int Tryd.underlying22 cOne32 rfl (hg 5 _ rfl)
      obtain ⟨v5, rfl, rfl, z5⟩ := one_int Tryd.underlying22 cOne32 rfl (hg 6 _ rfl)
      obtain ⟨v6, rfl, rfl, z6⟩ := one_int Tryd.underlying3 cOneI rfl (hg 7 _ rfl)
      obtain ⟨v7, rfl, rfl, z7⟩ := one_int Tryd.underlying3 cOneI rfl (hg 8 _ rfl)
      obtain ⟨v8, rfl, rfl, z8⟩ := one_int Tryd.underlying5 cOne8 rfl (hg 10 _ rfl)
      rw [wf_u8] at z0 z1 z2 z3 z8
      rw [wf_u32] at z4 z5
      rw [wf_i64] at z6 z7
      obtain ⟨ka, kb, kc, kd, ke⟩ := k
      obtain ⟨qa, qb, qc, qd, qe⟩ := q
      simp only [Key.cells, List.cons.injEq, and_true] at ek eq
      obtain ⟨rfl, rfl, rfl, rfl, rfl⟩ := ek
      obtain ⟨rfl, rfl, rfl, rfl, rfl⟩ := eq
      simp only [Prod.mk.injEq] at hx
      exact ⟨⟨⟨ka, kb, kc, kd, ke⟩, v0, v1, v2, v3, v4, v5, v6, v7, ⟨qa, qb, qc, qd, qe⟩, v8⟩, ⟨hk, z0.1, z0.2, z1.1, z1.2, z2.1, z2.2, z3.1, z3.2, z4.1, z4.2, z5.1, z5.2, z6.1, z6.2, z7.1, z7.2, hq, z8.1, z8.2⟩, rfl, hx.1, hx.2⟩
set_option maxRecDepth 100000 in
theorem shut_key (k : Key) (ho : k.Ok) (n : Nat) : DataW.trod enc Tryd.prog w base spare held (n + 2) 25 k.cells = some (k.dat, []) := by
  obtain ⟨a, b, c, d, e⟩ := k
  have h0 := trod_int_mk (enc := enc) (P := Tryd.prog) (w := w) (base := base) (spare := spare) (held := held) n Tryd.underlying5 (wf_u8.2 ⟨ho.proto0, ho.proto1⟩)
  have h1 := trod_int_mk (enc := enc) (P := Tryd.prog) (w := w) (base := base) (spare := spare) (held := held) n Tryd.underlying22 (wf_u32.2 ⟨ho.src0, ho.src1⟩)
  have h2 := trod_int_mk (enc := enc) (P := Tryd.prog) (w := w) (base := base) (spare := spare) (held := held) n Tryd.underlying22 (wf_u32.2 ⟨ho.dst0, ho.dst1⟩)
  have h3 := trod_int_mk (enc := enc) (P := Tryd.prog) (w := w) (base := base) (spare := spare) (held := held) n Tryd.underlying23 (wf_u16.2 ⟨ho.sp0, ho.sp1⟩)
  have h4 := trod_int_mk (enc := enc) (P := Tryd.prog) (w := w) (base := base) (spare := spare) (held := held) n Tryd.underlying23 (wf_u16.2 ⟨ho.dp0, ho.dp1⟩)
  exact trod_struct_mk (enc := enc) (P := Tryd.prog) (w := w) (base := base) (spare := spare) (held := held) (n := n + 1) (cs := [.int .u8 a, .int .u32 b, .int .u32 c, .int .u16 d, .int .u16 e]) (xs := [(.lit (.int .u8 a), []), (.lit (.int .u32 b), []), (.lit (.int .u32 c), []), (.lit (.int .u16 d), []), (.lit (.int .u16 e), [])]) Tryd.underlying25 (by rw [cKey]; rfl) (by
    simp only [ cOne8, cOne16, cOne32, List.mapM_cons, List.mapM_nil, List.drop_zero, List.drop_succ_cons, List.take_succ_cons, List.take_zero, h0, h1, h2, h3, h4]
    rfl)
set_option maxRecDepth 100000 in
theorem shut_facts (f : Facts) (ho : f.Ok) : DataW.Trod enc Tryd.prog w base spare held 27 f.val f.dat [] := by
  obtain ⟨k, v0, v1, v2, v3, v4, v5, v6, v7, q, v8⟩ := f
  refine ⟨3, ?_⟩
  have hk := shut_key (enc := enc) (w := w) (base := base) (spare := spare) (held := held) k ho.key 0
  have hq := shut_key (enc := enc) (w := w) (base := base) (spare := spare) (held := held) q ho.quoted 0
  have h0 := trod_int_mk (enc := enc) (P := Tryd.prog) (w := w) (base := base) (spare := spare) (held := held) 1 Tryd.underlying5 (wf_u8.2 ⟨ho.kind0, ho.kind1⟩)
  have h1 := trod_int_mk (enc := enc) (P := Tryd.prog) (w := w) (base := base) (spare := spare) (held := held) 1 Tryd.underlying5 (wf_u8.2 ⟨ho.flags0, ho.flags1⟩)
  have h2 := trod_int_mk (enc := enc) (P := Tryd.prog) (w := w) (base := base) (spare := spare) (held := held) 1 Tryd.underlying5 (wf_u8.2 ⟨ho.type0, ho.type1⟩)
  have h3 := trod_int_mk (enc := enc) (P := Tryd.prog) (w := w) (base := base) (spare := spare) (held := held) 1 Tryd.underlying5 (wf_u8.2 ⟨ho.code0, ho.code1⟩)
  have h4 := trod_int_mk (enc := enc) (P := Tryd.prog) (w := w) (base := base) (spare := spare) (held := held) 1 Tryd.underlying22 (wf_u32.2 ⟨ho.seqn0, ho.seqn1⟩)
  have h5 := trod_int_mk (enc := enc) (P := Tryd.prog) (w := w) (base := base) (spare := spare) (held := held) 1 Tryd.underlying22 (wf_u32.2 ⟨ho.ackn0, ho.ackn1⟩)
  have h6 := trod_int_mk (enc := enc) (P := Tryd.prog) (w := w) (base := base) (spare := spare) (held := held) 1 Tryd.underlying3 (wf_i64.2 ⟨ho.window0, ho.window1⟩)
  have h7 := trod_int_mk (enc := enc) (P := Tryd.prog) (w := w) (base := base) (spare := spare) (held := held) 1 Tryd.underlying3 (wf_i64.2 ⟨ho.length0, ho.length1⟩)
  have h8 := trod_int_mk (enc := enc) (P := Tryd.prog) (w := w) (base := base) (spare := spare) (held := held) 1 Tryd.underlying5 (wf_u8.2 ⟨ho.qkind0, ho.qkind1⟩)
  obtain ⟨ka, kb, kc, kd, ke⟩ := k
  obtain ⟨qa, qb, qc, qd, qe⟩ := q
  exact trod_struct_mk (enc := enc) (P := Tryd.prog) (w := w) (base := base) (spare := spare) (held := held) (n := 2) (cs := [.int .u8 ka, .int .u32 kb, .int .u32 kc, .int .u16 kd, .int .u16 ke, .int .u8 v0, .int .u8 v1, .int .u8 v2, .int .u8 v3, .int .u32 v4, .int .u32 v5, .int .i64 v6, .int .i64 v7, .int .u8 qa, .int .u32 qb, .int .u32 qc, .int .u16 qd, .int .u16 qe, .int .u8 v8]) (xs := [(Key.dat ⟨ka, kb, kc, kd, ke⟩, []), (.lit (.int .u8 v0), []), (.lit (.int .u8 v1), []), (.lit (.int .u8 v2), []), (.lit (.int .u8 v3), []), (.lit (.int .u32 v4), []), (.lit (.int .u32 v5), []), (.lit (.int .i64 v6), []), (.lit (.int .i64 v7), []), (Key.dat ⟨qa, qb, qc, qd, qe⟩, []), (.lit (.int .u8 v8), [])]) Tryd.underlying27 (by rw [cFacts]; rfl) (by
    dsimp only [Key.cells] at hk hq
    simp only [cKey, cOne8, cOne32, cOneI, List.mapM_cons, List.mapM_nil, List.drop_zero, List.drop_succ_cons, List.take_succ_cons, List.take_zero, h0, h1, h2, h3, h4, h5, h6, h7, h8, hk, hq]
    rfl)
end

theorem gSorts : Tryd.prog.globalNamed "baffle/icmp.sorts" = some 1 := by kernel_rfl
theorem tSorts : (Tryd.prog.globals[1]?).map (·.type) = some 189 := by kernel_rfl
theorem cSort : Tryd.prog.cellsOf 188 = 3 := by kernel_rfl
theorem nth_of_take {l : List Value} {a : Nat} {c : Value} (h : (l.drop a).take 1 = [c]) : l[a]? = some c := by
  have h2 : ((l.drop a).take 1)[0]? = some c := by rw [h]; rfl
  rwa [List.getElem?_take_of_lt (by omega), List.getElem?_drop, Nat.add_zero] at h2
theorem sorts_dat {H : Type} (k : Nat) (hk : k < 19) : ∃ l : List (DataW H), Rows.laid_baffle_icmp_sorts = .agg l ∧ l[k]? = some (.agg [.lit (.int .u8 (kindN k)), .lit (.int .u8 (codesN k)), .lit (.int .u8 (replyN k))]) := by
  refine ⟨_, rfl, ?_⟩
  rcases (show k = 0 ∨ k = 1 ∨ k = 2 ∨ k = 3 ∨ k = 4 ∨ k = 5 ∨ k = 6 ∨ k = 7 ∨ k = 8 ∨ k = 9 ∨ k = 10 ∨ k = 11 ∨ k = 12 ∨ k = 13 ∨ k = 14 ∨ k = 15 ∨ k = 16 ∨ k = 17 ∨ k = 18 by omega) with rfl | rfl | rfl | rfl | rfl | rfl | rfl | rfl | rfl | rfl | rfl | rfl | rfl | rfl | rfl | rfl | rfl | rfl | rfl <;> rfl
/-- What the row's condition on the table gives. -/
theorem sorts_of_laid {W : World} (h : laidMetH Tryd.prog [("baffle/icmp.sorts", Rows.laid_baffle_icmp_sorts)] W) : SortsAt W := by
  rw [MakeChecks.laidMetH_plain _ _ _ (by kernel_rfl)] at h
  obtain ⟨ps, ⟨g0, t0, cs0, f0, p0, q0, hg0, ht0, hv0, hd0, _⟩, _⟩ := h
  obtain rfl := Option.some.inj (gSorts.symm.trans hg0)
  obtain rfl := Option.some.inj (tSorts.symm.trans ht0)
  obtain ⟨xs, m, _, hx, _, hlen, hel⟩ := DataW.trod_array Tryd.underlying189 hd0
  intro k hk
  have h1 := hel k hk
  rw [cSort] at h1
  obtain ⟨l, e1, e2⟩ := sorts_dat k hk
  simp only [Prod.mk.injEq] at hx
  rw [e1] at hx
  have hl : l = xs.map (·.1) := by simpa using hx.1
  rw [hl, List.getElem?_map] at e2
  obtain ⟨x, hxk, hx1⟩ := Option.map_eq_some_iff.1 e2
  rw [hxk] at h1
  obtain ⟨y0, y1, y2, n, hy, hcl, t0, t1, t2⟩ := Go.Deep.trod_struct3 Tryd.underlying188 h1
  rw [cSort] at hcl
  match hcs : (cs0.toList.drop (k * 3)).take 3, hcl with
  | [c0, c1, c2], _ =>
    rw [hcs] at t0 t1 t2
    obtain ⟨a, rfl, rfl, _⟩ := one_int Tryd.underlying5 cOne8 rfl t0
    obtain ⟨b, rfl, rfl, _⟩ := one_int Tryd.underlying5 cOne8 rfl t1
    obtain ⟨c, rfl, rfl, _⟩ := one_int Tryd.underlying5 cOne8 rfl t2
    rw [hy] at hx1
    simp only [DataW.agg.injEq, List.cons.injEq, DataW.lit.injEq, Lit.int.injEq, true_and, and_true] at hx1
    obtain ⟨rfl, rfl, rfl⟩ := hx1
    have hat : ∀ j, j < 3 → cs0[k * 3 + j]? = ((cs0.toList.drop (k * 3)).take 3)[j]? := fun j hj => by
      rw [List.getElem?_take_of_lt hj, List.getElem?_drop]
      simp
    refine ⟨?_, ?_, ?_⟩
    · have := hat 0 (by omega)
      rw [hcs] at this
      exact (World.var?_cell hg0 hv0 (k * 3)).trans this
    · have := hat 1 (by omega)
      rw [hcs] at this
      exact (World.var?_cell hg0 hv0 (k * 3 + 1)).trans this
    · have := hat 2 (by omega)
      rw [hcs] at this
      exact (World.var?_cell hg0 hv0 (k * 3 + 2)).trans this

end Go.Proofs.YtebeekjcepjcnaaDoor
