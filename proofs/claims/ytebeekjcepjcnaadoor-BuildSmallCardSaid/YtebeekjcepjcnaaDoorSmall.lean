/-
  bafflelaw12.BuildSmall: it returns true.
-/
import Derived.Test.YtebeekjcepjcnaaDoorChanged
import Derived.Great.BuildSlice
namespace Go.Proofs.YtebeekjcepjcnaaDoor
open Go.RowKit Go.Shelf

/-- The longest packet of a kind. -/
def Facts.big (f : Facts) : Facts := { f with length := if f.kind = 1 then 65495 else 65507 }
structure Good (f : Facts) : Prop where
  ok : f.Ok
  big : f.big.right = true
theorem Good.big_ok {f : Facts} (h : Good f) : f.big.Ok := by
  have o := h.ok
  exact ⟨o.key, o.kind0, o.kind1, o.flags0, o.flags1, o.type0, o.type1, o.code0, o.code1, o.seqn0, o.seqn1, o.ackn0, o.ackn1, o.window0, o.window1, by show _ ≤ (if f.kind = 1 then (65495 : Int) else 65507); split <;> omega, by show (if f.kind = 1 then (65495 : Int) else 65507) ≤ _; split <;> omega, o.quoted, o.qkind0, o.qkind1⟩
theorem Good.big_made {f : Facts} (h : Good f) : f.big.madeL.length = 65535 ∧ f.big.madeE = 0 := by
  have hl := (dataL_len h.big).1
  unfold Facts.madeL Facts.madeE
  rw [if_pos h.big, if_pos h.big]
  refine ⟨?_, rfl⟩
  unfold Facts.buildL
  rw [ipWriteL_len, hl]
  simp only [hdrH, List.length_nil, Facts.big]
  by_cases h1 : f.kind = 1 <;> simp [h1]
def exT : Nat → Facts
  | 0 => ⟨⟨6, 167772161, 167772162, 1024, 80⟩, 1, 2, 0, 0, 1, 0, 512, 0, ⟨0, 0, 0, 0, 0⟩, 0⟩
  | 1 => ⟨⟨17, 167772161, 167772162, 1024, 80⟩, 2, 0, 0, 0, 0, 0, 0, 5, ⟨0, 0, 0, 0, 0⟩, 0⟩
  | 2 => ⟨⟨1, 167772161, 167772162, 7, 7⟩, 3, 0, 13, 0, 0, 0, 0, 3, ⟨0, 0, 0, 0, 0⟩, 0⟩
  | 3 => ⟨⟨1, 167772161, 167772162, 7, 7⟩, 4, 0, 0, 0, 0, 0, 0, 3, ⟨0, 0, 0, 0, 0⟩, 0⟩
  | 4 => ⟨⟨1, 167772161, 167772162, 0, 0⟩, 5, 0, 11, 1, 0, 0, 0, 30, ⟨6, 167772161, 167772162, 1024, 80⟩, 1⟩
  | 5 => ⟨⟨1, 167772161, 167772162, 0, 0⟩, 5, 0, 11, 1, 0, 0, 0, 30, ⟨17, 167772161, 167772162, 1024, 80⟩, 2⟩
  | _ => ⟨⟨1, 167772161, 167772162, 0, 0⟩, 5, 0, 11, 1, 0, 0, 0, 30, ⟨1, 167772161, 167772162, 7, 7⟩, 4⟩
theorem exT_good0 : Good (exT 0) := ⟨⟨⟨by decide, by decide, by decide, by decide, by decide, by decide, by decide, by decide, by decide, by decide⟩, by decide, by decide, by decide, by decide, by decide, by decide, by decide, by decide, by decide, by decide, by decide, by decide, by decide, by decide, by decide, by decide, ⟨by decide, by decide, by decide, by decide, by decide, by decide, by decide, by decide, by decide, by decide⟩, by decide, by decide⟩, by decide +kernel⟩
theorem exT_good1 : Good (exT 1) := ⟨⟨⟨by decide, by decide, by decide, by decide, by decide, by decide, by decide, by decide, by decide, by decide⟩, by decide, by decide, by decide, by decide, by decide, by decide, by decide, by decide, by decide, by decide, by decide, by decide, by decide, by decide, by decide, by decide, ⟨by decide, by decide, by decide, by decide, by decide, by decide, by decide, by decide, by decide, by decide⟩, by decide, by decide⟩, by decide +kernel⟩
theorem exT_good2 : Good (exT 2) := ⟨⟨⟨by decide, by decide, by decide, by decide, by decide, by decide, by decide, by decide, by decide, by decide⟩, by decide, by decide, by decide, by decide, by decide, by decide, by decide, by decide, by decide, by decide, by decide, by decide, by decide, by decide, by decide, by decide, ⟨by decide, by decide, by decide, by decide, by decide, by decide, by decide, by decide, by decide, by decide⟩, by decide, by decide⟩, by decide +kernel⟩
theorem exT_good3 : Good (exT 3) := ⟨⟨⟨by decide, by decide, by decide, by decide, by decide, by decide, by decide, by decide, by decide, by decide⟩, by decide, by decide, by decide, by decide, by decide, by decide, by decide, by decide, by decide, by decide, by decide, by decide, by decide, by decide, by decide, by decide, ⟨by decide, by decide, by decide, by decide, by decide, by decide, by decide, by decide, by decide, by decide⟩, by decide, by decide⟩, by decide +kernel⟩
theorem exT_good4 : Good (exT 4) := ⟨⟨⟨by decide, by decide, by decide, by decide, by decide, by decide, by decide, by decide, by decide, by decide⟩, by decide, by decide, by decide, by decide, by decide, by decide, by decide, by decide, by decide, by decide, by decide, by decide, by decide, by decide, by decide, by decide, ⟨by decide, by decide, by decide, by decide, by decide, by decide, by decide, by decide, by decide, by decide⟩, by decide, by decide⟩, by decide +kernel⟩
theorem exT_good5 : Good (exT 5) := ⟨⟨⟨by decide, by decide, by decide, by decide, by decide, by decide, by decide, by decide, by decide, by decide⟩, by decide, by decide, by decide, by decide, by decide, by decide, by decide, by decide, by decide, by decide, by decide, by decide, by decide, by decide, by decide, by decide, ⟨by decide, by decide, by decide, by decide, by decide, by decide, by decide, by decide, by decide, by decide⟩, by decide, by decide⟩, by decide +kernel⟩
theorem exT_good6 : Good (exT 6) := ⟨⟨⟨by decide, by decide, by decide, by decide, by decide, by decide, by decide, by decide, by decide, by decide⟩, by decide, by decide, by decide, by decide, by decide, by decide, by decide, by decide, by decide, by decide, by decide, by decide, by decide, by decide, by decide, by decide, ⟨by decide, by decide, by decide, by decide, by decide, by decide, by decide, by decide, by decide, by decide⟩, by decide, by decide⟩, by decide +kernel⟩
def nums : List Int := [0, 1, 2, 3, 4, 5, 6, 7, 8, 11, 13, 14, 15, 16, 17, 18, 24, 27, 28, 29, 63, 64, 80, 1024, 65495, 65496, 65507, 65508, 65535, 65536, -1, 3758096383, 3758096384, 167772161, 167772162, 4294967295, 4611686018427387904]
theorem nums_bd (j : Nat) (hj : j < 37) : -9223372036854775808 ≤ nums.getD j 0 ∧ nums.getD j 0 ≤ 9223372036854775807 := by
  have : ∀ x : Fin 37, -9223372036854775808 ≤ nums.getD x.val 0 ∧ nums.getD x.val 0 ≤ 9223372036854775807 := by decide
  exact this ⟨j, hj⟩
theorem tellsI_any (f : Facts) (k c : Int) (w : World) (ho : f.Ok) (k0 : 0 ≤ k) (k1 : k < 256) (c0 : 0 ≤ c) (hs : SortsAt w) :
    Calls Tryd.prog 16 #[f.val, .int .u8 k, .int .u8 c] w fun e w' => e = .returned (.bool true) ∧ Below w.heap.size w w' := by
  obtain ⟨kn, rfl⟩ : ∃ n : Nat, k = n := ⟨k.toNat, by omega⟩
  obtain ⟨cn, rfl⟩ : ∃ n : Nat, c = n := ⟨c.toNat, by omega⟩
  exact tells_any f kn cn w ho (by omega) hs

/-- THE ARM of a slice literal of structs. -/
theorem wpList_buildRows {P : Program} {ops : Array Oper} {rest : List Oper} {o : Oper} {a : Act} {w : World} {Q : Exit → Act → World → Prop} (hg : o.guard = none) (t e : TypeId) (len : Nat) (parts : Array (Nat × Operand)) (ho : o.op = .buildSlice t len parts)
    (hu : P.underlying t = some (.slice e)) (n : Nat) (z : Value) (hsz : (P.info? e).map (fun i => (i.size, i.zero)) = some (n, some z)) (vals : List (Nat × Value)) (hv : (parts.map fun (i, x) => (i, a.eval x)).toList = vals) (cells : Array Value)
    (hf : Instr.fill (fun i => some (i * n, n)) ((Array.range (len * n)).map (z.cells[· % z.cells.size]!)) vals = some cells) (hsmall : ¬ len * n > 2 ^ 24) (hpos : ¬ len * n = 0)
    (h : wpList P ops Q rest (a.put o.dst (.slice (some ⟨w.heap.size, 0, none⟩) len len)) (w.alloc (.cells cells e))) : wpList P ops Q (o :: rest) a w := by
  cases hie : P.info? e with
  | none => rw [hie] at hsz; cases hsz
  | some ie =>
    rw [hie] at hsz
    simp only [Option.map_some, Option.some.injEq, Prod.mk.injEq] at hsz
    obtain ⟨rfl, hz⟩ := hsz
    subst hv
    exact wpList_buildSlice hg t e len parts ho cells ie z hu hie hz hsmall hpos hf h
theorem look_build {P : Program} {ops : Array Oper} {Q : Exit → Act → World → Prop} {a : Act} {w : World} {rest : List Oper} {d : Option Tmp} {ty t : TypeId} {len : Nat} {x : Array (Nat × Operand)} {p : String} {af : Array Edge} {g : Option (Nat × Bool)}
    (h : wpList P ops Q ((⟨d, .buildSlice ty len x, t, p, af, g⟩ : Oper) :: rest) a w) : wpList P ops Q ((⟨d, .buildSlice ty len x, t, p, af, g⟩ : Oper) :: rest) a w := h
def tabF (C6 : Array Value) : List (Nat × Value) := [(0, .agg #[.int .u8 6, .int .u32 167772161, .int .u32 167772162, .int .u16 1024, .int .u16 80, .int .u8 1, .int .u8 2, .int .u8 0, .int .u8 0, .int .u32 1, .int .u32 0, .int .i64 512, .int .i64 0, .int .u8 0, .int .u32 0, .int .u32 0, .int .u16 0, .int .u16 0, .int .u8 0]), (1, .agg #[.int .u8 17, .int .u32 167772161, .int .u32 167772162, .int .u16 1024, .int .u16 80, .int .u8 2, .int .u8 0, .int .u8 0, .int .u8 0, .int .u32 0, .int .u32 0, .int .i64 0, .int .i64 5, .int .u8 0, .int .u32 0, .int .u32 0, .int .u16 0, .int .u16 0, .int .u8 0]), (2, .agg #[.int .u8 1, .int .u32 167772161, .int .u32 167772162, .int .u16 7, .int .u16 7, .int .u8 3, .int .u8 0, .int .u8 13, .int .u8 0, .int .u32 0, .int .u32 0, .int .i64 0, .int .i64 3, .int .u8 0, .int .u32 0, .int .u32 0, .int .u16 0, .int .u16 0, .int .u8 0]), (3, .agg #[.int .u8 1, .int .u32 167772161, .int .u32 167772162, .int .u16 7, .int .u16 7, .int .u8 4, .int .u8 0, .int .u8 0, .int .u8 0, .int .u32 0, .int .u32 0, .int .i64 0, .int .i64 3, .int .u8 0, .int .u32 0, .int .u32 0, .int .u16 0, .int .u16 0, .int .u8 0]), (4, .agg #[.int .u8 1, .int .u32 167772161, .int .u32 167772162, .int .u16 0, .int .u16 0, .int .u8 5, .int .u8 0, .int .u8 11, .int .u8 1, .int .u32 0, .int .u32 0, .int .i64 0, .int .i64 30, .int .u8 6, .int .u32 167772161, .int .u32 167772162, .int .u16 1024, .int .u16 80, .int .u8 1]), (5, .agg C6), (6, .agg #[.int .u8 1, .int .u32 167772161, .int .u32 167772162, .int .u16 0, .int .u16 0, .int .u8 5, .int .u8 0, .int .u8 11, .int .u8 1, .int .u32 0, .int .u32 0, .int .i64 0, .int .i64 30, .int .u8 1, .int .u32 167772161, .int .u32 167772162, .int .u16 7, .int .u16 7, .int .u8 4])]
set_option maxRecDepth 100000 in
theorem tab_fill (C6 : Array Value) (h : C6 = #[.int .u8 1, .int .u32 167772161, .int .u32 167772162, .int .u16 0, .int .u16 0, .int .u8 5, .int .u8 0, .int .u8 11, .int .u8 1, .int .u32 0, .int .u32 0, .int .i64 0, .int .i64 30, .int .u8 17, .int .u32 167772161, .int .u32 167772162, .int .u16 1024, .int .u16 80, .int .u8 2] ∨ C6 = #[.int .u8 1, .int .u32 167772161, .int .u32 167772162, .int .u16 0, .int .u16 0, .int .u8 5, .int .u8 0, .int .u8 11, .int .u8 1, .int .u32 0, .int .u32 0, .int .i64 0, .int .i64 30, .int .u8 1, .int .u32 167772161, .int .u32 167772162, .int .u16 7, .int .u16 7, .int .u8 4]) : ∃ CB : Array Value, Instr.fill (fun i => some (i * 19, 19)) ((Array.range (7 * 19)).map ((Value.agg #[.int .u8 0, .int .u32 0, .int .u32 0, .int .u16 0, .int .u16 0, .int .u8 0, .int .u8 0, .int .u8 0, .int .u8 0, .int .u32 0, .int .u32 0, .int .i64 0, .int .i64 0, .int .u8 0, .int .u32 0, .int .u32 0, .int .u16 0, .int .u16 0, .int .u8 0]).cells[· % (Value.agg #[.int .u8 0, .int .u32 0, .int .u32 0, .int .u16 0, .int .u16 0, .int .u8 0, .int .u8 0, .int .u8 0, .int .u8 0, .int .u32 0, .int .u32 0, .int .i64 0, .int .i64 0, .int .u8 0, .int .u32 0, .int .u32 0, .int .u16 0, .int .u16 0, .int .u8 0]).cells.size]!)) (tabF C6) = some CB ∧
    ∀ i, i < 7 → ∃ x : Facts, Good x ∧ (CB.toList.drop (i * 19)).take 19 = x.cells := by
  rcases h with rfl | rfl
  · refine ⟨#[.int .u8 6, .int .u32 167772161, .int .u32 167772162, .int .u16 1024, .int .u16 80, .int .u8 1, .int .u8 2, .int .u8 0, .int .u8 0, .int .u32 1, .int .u32 0, .int .i64 512, .int .i64 0, .int .u8 0, .int .u32 0, .int .u32 0, .int .u16 0, .int .u16 0, .int .u8 0, .int .u8 17, .int .u32 167772161, .int .u32 167772162, .int .u16 1024, .int .u16 80, .int .u8 2, .int .u8 0, .int .u8 0, .int .u8 0, .int .u32 0, .int .u32 0, .int .i64 0, .int .i64 5, .int .u8 0, .int .u32 0, .int .u32 0, .int .u16 0, .int .u16 0, .int .u8 0, .int .u8 1, .int .u32 167772161, .int .u32 167772162, .int .u16 7, .int .u16 7, .int .u8 3, .int .u8 0, .int .u8 13, .int .u8 0, .int .u32 0, .int .u32 0, .int .i64 0, .int .i64 3, .int .u8 0, .int .u32 0, .int .u32 0, .int .u16 0, .int .u16 0, .int .u8 0, .int .u8 1, .int .u32 167772161, .int .u32 167772162, .int .u16 7, .int .u16 7, .int .u8 4, .int .u8 0, .int .u8 0, .int .u8 0, .int .u32 0, .int .u32 0, .int .i64 0, .int .i64 3, .int .u8 0, .int .u32 0, .int .u32 0, .int .u16 0, .int .u16 0, .int .u8 0, .int .u8 1, .int .u32 167772161, .int .u32 167772162, .int .u16 0, .int .u16 0, .int .u8 5, .int .u8 0, .int .u8 11, .int .u8 1, .int .u32 0, .int .u32 0, .int .i64 0, .int .i64 30, .int .u8 6, .int .u32 167772161, .int .u32 167772162, .int .u16 1024, .int .u16 80, .int .u8 1, .int .u8 1, .int .u32 167772161, .int .u32 167772162, .int .u16 0, .int .u16 0, .int .u8 5, .int .u8 0, .int .u8 11, .int .u8 1, .int .u32 0, .int .u32 0, .int .i64 0, .int .i64 30, .int .u8 17, .int .u32 167772161, .int .u32 167772162, .int .u16 1024, .int .u16 80, .int .u8 2, .int .u8 1, .int .u32 167772161, .int .u32 167772162, .int .u16 0, .int .u16 0, .int .u8 5, .int .u8 0, .int .u8 11, .int .u8 1, .int .u32 0, .int .u32 0, .int .i64 0, .int .i64 30, .int .u8 1, .int .u32 167772161, .int .u32 167772162, .int .u16 7, .int .u16 7, .int .u8 4], by kernel_rfl, fun i hi => ?_⟩
    rcases (show i = 0 ∨ i = 1 ∨ i = 2 ∨ i = 3 ∨ i = 4 ∨ i = 5 ∨ i = 6 by omega) with rfl | rfl | rfl | rfl | rfl | rfl | rfl
    · exact ⟨_, exT_good0, rfl⟩
    · exact ⟨_, exT_good1, rfl⟩
    · exact ⟨_, exT_good2, rfl⟩
    · exact ⟨_, exT_good3, rfl⟩
    · exact ⟨_, exT_good4, rfl⟩
    · exact ⟨_, exT_good5, rfl⟩
    · exact ⟨_, exT_good6, rfl⟩
  · refine ⟨#[.int .u8 6, .int .u32 167772161, .int .u32 167772162, .int .u16 1024, .int .u16 80, .int .u8 1, .int .u8 2, .int .u8 0, .int .u8 0, .int .u32 1, .int .u32 0, .int .i64 512, .int .i64 0, .int .u8 0, .int .u32 0, .int .u32 0, .int .u16 0, .int .u16 0, .int .u8 0, .int .u8 17, .int .u32 167772161, .int .u32 167772162, .int .u16 1024, .int .u16 80, .int .u8 2, .int .u8 0, .int .u8 0, .int .u8 0, .int .u32 0, .int .u32 0, .int .i64 0, .int .i64 5, .int .u8 0, .int .u32 0, .int .u32 0, .int .u16 0, .int .u16 0, .int .u8 0, .int .u8 1, .int .u32 167772161, .int .u32 167772162, .int .u16 7, .int .u16 7, .int .u8 3, .int .u8 0, .int .u8 13, .int .u8 0, .int .u32 0, .int .u32 0, .int .i64 0, .int .i64 3, .int .u8 0, .int .u32 0, .int .u32 0, .int .u16 0, .int .u16 0, .int .u8 0, .int .u8 1, .int .u32 167772161, .int .u32 167772162, .int .u16 7, .int .u16 7, .int .u8 4, .int .u8 0, .int .u8 0, .int .u8 0, .int .u32 0, .int .u32 0, .int .i64 0, .int .i64 3, .int .u8 0, .int .u32 0, .int .u32 0, .int .u16 0, .int .u16 0, .int .u8 0, .int .u8 1, .int .u32 167772161, .int .u32 167772162, .int .u16 0, .int .u16 0, .int .u8 5, .int .u8 0, .int .u8 11, .int .u8 1, .int .u32 0, .int .u32 0, .int .i64 0, .int .i64 30, .int .u8 6, .int .u32 167772161, .int .u32 167772162, .int .u16 1024, .int .u16 80, .int .u8 1, .int .u8 1, .int .u32 167772161, .int .u32 167772162, .int .u16 0, .int .u16 0, .int .u8 5, .int .u8 0, .int .u8 11, .int .u8 1, .int .u32 0, .int .u32 0, .int .i64 0, .int .i64 30, .int .u8 1, .int .u32 167772161, .int .u32 167772162, .int .u16 7, .int .u16 7, .int .u8 4, .int .u8 1, .int .u32 167772161, .int .u32 167772162, .int .u16 0, .int .u16 0, .int .u8 5, .int .u8 0, .int .u8 11, .int .u8 1, .int .u32 0, .int .u32 0, .int .i64 0, .int .i64 30, .int .u8 1, .int .u32 167772161, .int .u32 167772162, .int .u16 7, .int .u16 7, .int .u8 4], by kernel_rfl, fun i hi => ?_⟩
    rcases (show i = 0 ∨ i = 1 ∨ i = 2 ∨ i = 3 ∨ i = 4 ∨ i = 5 ∨ i = 6 by omega) with rfl | rfl | rfl | rfl | rfl | rfl | rfl
    · exact ⟨_, exT_good0, rfl⟩
    · exact ⟨_, exT_good1, rfl⟩
    · exact ⟨_, exT_good2, rfl⟩
    · exact ⟨_, exT_good3, rfl⟩
    · exact ⟨_, exT_good4, rfl⟩
    · exact ⟨_, exT_good6, rfl⟩
    · exact ⟨_, exT_good6, rfl⟩
def numsA : Array Value := (nums.map (Value.int .i64)).toArray
theorem facts_val_inj (f g : Facts) (h : f.val = g.val) : f = g := by
  obtain ⟨⟨a0, a1, a2, a3, a4⟩, b0, b1, b2, b3, b4, b5, b6, b7, ⟨c0, c1, c2, c3, c4⟩, d⟩ := f
  obtain ⟨⟨a0', a1', a2', a3', a4'⟩, b0', b1', b2', b3', b4', b5', b6', b7', ⟨c0', c1', c2', c3', c4'⟩, d'⟩ := g
  simpa [Facts.val, Facts.cells, Key.cells, and_assoc] using h
theorem changedI (f : Facts) (k : Int) (n : Int) (w : World) (ho : f.Ok) (k0 : 0 ≤ k) (k1 : k ≤ 18) (n0 : -9223372036854775808 ≤ n) (n1 : n ≤ 9223372036854775807) :
    Calls Tryd.prog 19 #[f.val, .int .i64 k, .int .i64 n] w fun e w' => ∃ g : Facts, g.Ok ∧ e = .returned g.val ∧ Below w.heap.size w w' := by
  obtain ⟨kn, rfl⟩ : ∃ n : Nat, k = n := ⟨k.toNat, by omega⟩
  exact changed_any f kn n w ho (by omega) n0 n1
theorem numsA_at (j : Nat) (hj : j < 37) : numsA[j]? = some (.int .i64 (nums.getD j 0)) := by
  have hl : nums.length = 37 := rfl
  simp [numsA, List.getD_eq_getElem?_getD, hl, hj]
def SmRel (w : World) (L : List (Nat × TypeId × Array Value)) (N : Nat) (i : Value) (W : World) : Prop := ∃ k : Nat, k ≤ N ∧ i = .int .i64 k ∧ St w w.heap.size L W
theorem St.fresh {w W : World} {B : Nat} {L : List (Nat × TypeId × Array Value)} (h : St w B L W) : (∀ x ∈ L, x.1 ≠ W.heap.size) ∧ B ≤ W.heap.size := ⟨fun x hx e => by have := (h.2.2 x hx).lt; omega, h.2.1⟩
theorem St.setHead {w W : World} {B g : Nat} {t : TypeId} {cs : Array Value} {L : List (Nat × TypeId × Array Value)} (h : St w B ((g, t, cs) :: L) W) (hf : (∀ x ∈ L, x.1 ≠ g) ∧ B ≤ g) (i : Nat) (u : Value) : St w B ((g, t, cs.setIfInBounds i u) :: L) (W.setCell ⟨g, i, none⟩ u) :=
  St.cons ((show St w B L W from ⟨h.1, h.2.1, fun x hx => h.2.2 x (List.mem_cons_of_mem _ hx)⟩).setFar (p := ⟨g, i, none⟩) hf.2 hf.1 u) ((h.2.2 _ (List.mem_cons_self ..)).set i u)
set_option maxRecDepth 100000 in
set_option maxHeartbeats 4000000 in
theorem small_any (w : World) (hs : SortsAt w) : Calls Tryd.prog 4 #[] w fun e w' => e = .returned (.bool true) ∧ Below w.heap.size w w' := by
  have Hs := Lib.hid hs
  clear hs
  go_enter Tryd.func4, Tryd.ntmps4
  have hSt : St w w.heap.size [] w := St.nil (Below.refl _ _) (Nat.le_refl _)
  go_upto_region 2 with (first | (go_at_call 18; refine (exF12_any _).mono ?_; rintro e u1 ⟨rfl, l2⟩) | ((with_reducible refine look_store ?_); refine wpList_store_new rfl _ _ _ rfl _ _ rfl rfl _ _ rfl (by kernel_rfl) (by simp) (by simp [Value.oneCell']) ?_) | fail)
  try dsimp only [Act.put]
  refine wp_name1 ?_
  intro v1 hb2 hs2 b1
  clear hs2
  replace hSt := ((hSt.below l2).below hb2).cons b1
  have hf1 := (show w.heap.size ≤ u1.heap.size from l2.size)
  clear l2 hb2 b1
  generalize u1.heap.size = a1 at *
  have hc0 := (hSt.get 0 rfl).cell
  go_upto_region 3 with (first | ((with_reducible refine look_store ?_); refine wpList_store_new rfl _ _ _ rfl _ _ rfl rfl _ _ rfl (by kernel_rfl) (by simp) (by simp [Value.oneCell']) ?_) | fail)
  clear hc0
  try dsimp only [Act.put]
  refine wp_name1 ?_
  intro v2 hb2 hs2 b
  clear hs2
  have hf := hSt.fresh
  replace hSt := (hSt.below hb2).cons b
  clear hb2 b
  generalize v1.heap.size = a2 at *
  have hcx := (hSt.get 0 rfl).cell
  have hfx := (hSt.get 0 rfl).frozen
  go_upto_region 4 with (fail)
  replace hSt := (St.setHead hSt hf 0 (.int .u8 17))
  simp only [List.setIfInBounds_toArray, List.set_cons_zero] at hSt
  clear hcx hfx
  generalize (v2.setCell ⟨a2, 0, none⟩ (.int .u8 17)) = x2 at *
  have hc1 := (hSt.get 1 rfl).cell
  go_upto_region 5 with (first | ((with_reducible refine look_store ?_); refine wpList_store_new rfl _ _ _ rfl _ _ rfl rfl _ _ rfl (by kernel_rfl) (by simp) (by simp [Value.oneCell']) ?_) | fail)
  clear hc1
  try dsimp only [Act.put]
  refine wp_name1 ?_
  intro v3 hb2 hs2 b
  clear hs2
  have hf := hSt.fresh
  replace hSt := (hSt.below hb2).cons b
  clear hb2 b
  generalize x2.heap.size = a3 at *
  have hcx := (hSt.get 0 rfl).cell
  have hfx := (hSt.get 0 rfl).frozen
  go_upto_region 6 with (fail)
  replace hSt := (St.setHead (St.setHead (St.setHead hSt hf 0 (.int .u8 1)) hf 3 (.int .u16 7)) hf 4 (.int .u16 7))
  simp only [List.setIfInBounds_toArray, List.set_cons_succ, List.set_cons_zero] at hSt
  clear hcx hfx
  generalize (((v3.setCell ⟨a3, 0, none⟩ (.int .u8 1)).setCell ⟨a3, 3, none⟩ (.int .u16 7)).setCell ⟨a3, 4, none⟩ (.int .u16 7)) = x3 at *
  have b3 := hSt.get 0 rfl
  go_upto_region 7 with (first | ((with_reducible refine look_load ?_); refine wpList_load_row rfl _ _ rfl _ rfl _ _ _ _ b3 Tryd.underlying27 rfl (by kernel_rfl) ?_) | ((with_reducible refine look_store ?_); refine wpList_store_new rfl _ _ _ rfl _ _ rfl rfl _ _ rfl (by kernel_rfl) (by simp) (by simp [Value.oneCell']) ?_) | fail)
  try dsimp only [Act.put]
  refine wp_name1 ?_
  intro v4 hb2 hs2 b
  clear hs2
  have hf := hSt.fresh
  replace hSt := (hSt.below hb2).cons b
  clear hb2 b
  generalize x3.heap.size = a4 at *
  clear b3
  have hcx := (hSt.get 0 rfl).cell
  have hfx := (hSt.get 0 rfl).frozen
  go_upto_region 8 with (fail)
  replace hSt := (St.setHead (St.setHead hSt hf 5 (.int .u8 4)) hf 7 (.int .u8 0))
  simp only [List.setIfInBounds_toArray, List.set_cons_succ, List.set_cons_zero] at hSt
  clear hcx hfx
  generalize ((v4.setCell ⟨a4, 5, none⟩ (.int .u8 4)).setCell ⟨a4, 7, none⟩ (.int .u8 0)) = x4 at *
  have hc3 := (hSt.get 3 rfl).cell
  go_upto_region 9 with (first | ((with_reducible refine look_store ?_); refine wpList_store_new rfl _ _ _ rfl _ _ rfl rfl _ _ rfl (by kernel_rfl) (by simp) (by simp [Value.oneCell']) ?_) | fail)
  clear hc3
  try dsimp only [Act.put]
  refine wp_name1 ?_
  intro v5 hb2 hs2 b
  clear hs2
  have hf := hSt.fresh
  replace hSt := (hSt.below hb2).cons b
  clear hb2 b
  generalize x4.heap.size = a5 at *
  have hcx := (hSt.get 0 rfl).cell
  have hfx := (hSt.get 0 rfl).frozen
  go_upto_region 10 with (fail)
  replace hSt := (St.setHead (St.setHead (St.setHead hSt hf 0 (.int .u8 1)) hf 3 (.int .u16 0)) hf 4 (.int .u16 0))
  simp only [List.setIfInBounds_toArray, List.set_cons_succ, List.set_cons_zero] at hSt
  clear hcx hfx
  generalize (((v5.setCell ⟨a5, 0, none⟩ (.int .u8 1)).setCell ⟨a5, 3, none⟩ (.int .u16 0)).setCell ⟨a5, 4, none⟩ (.int .u16 0)) = x5 at *
  have hl0 := (hSt.get 0 rfl).lt
  have hl1 := (hSt.get 1 rfl).lt
  have hl2 := (hSt.get 2 rfl).lt
  have hl3 := (hSt.get 3 rfl).lt
  have hl4 := (hSt.get 4 rfl).lt
  have hlB := hSt.2.1
  refine wp_region_walk (by kernel_rfl) (fun _ W => St w w.heap.size _ W ∧ x5.heap.size ≤ W.heap.size) [] (Late w.heap.size 27 #[.int .u8 0, .int .u32 0, .int .u32 0, .int .u16 0, .int .u16 0, .int .u8 0, .int .u8 0, .int .u8 0, .int .u8 0, .int .u32 0, .int .u32 0, .int .i64 0, .int .i64 0, .int .u8 0, .int .u32 0, .int .u32 0, .int .u16 0, .int .u16 0, .int .u8 0] #[.int .u8 1, .int .u32 167772161, .int .u32 167772162, .int .u16 0, .int .u16 0, .int .u8 5, .int .u8 0, .int .u8 11, .int .u8 1, .int .u32 0, .int .u32 0, .int .i64 0, .int .i64 30, .int .u8 6, .int .u32 167772161, .int .u32 167772162, .int .u16 1024, .int .u16 80, .int .u8 1])
    [2, 3] (fun _ => LateB x5.heap.size 27 #[.int .u8 0, .int .u32 0, .int .u32 0, .int .u16 0, .int .u16 0, .int .u8 0, .int .u8 0, .int .u8 0, .int .u8 0, .int .u32 0, .int .u32 0, .int .i64 0, .int .i64 0, .int .u8 0, .int .u32 0, .int .u32 0, .int .u16 0, .int .u16 0, .int .u8 0] #[.int .u8 1, .int .u32 167772161, .int .u32 167772162, .int .u16 0, .int .u16 0, .int .u8 5, .int .u8 0, .int .u8 11, .int .u8 1, .int .u32 0, .int .u32 0, .int .i64 0, .int .i64 30, .int .u8 6, .int .u32 167772161, .int .u32 167772162, .int .u16 1024, .int .u16 80, .int .u8 1]) [0, 1, 2, 3, 4, 5] (by kernel_rfl) ?hfree ⟨hSt.drew, Nat.le_refl _⟩ ?hwalk
  case hfree =>
    intro k hk
    rcases (show k = 2 ∨ k = 3 by simpa using hk) with rfl | rfl
    all_goals
      refine ⟨rfl, LateB.keep, fun o ho a c W hE => ?_⟩
      simp at ho
      subst ho
      go_wp2_with fail
      exact ⟨_, rfl, ⟨W.heap.size, rfl, hE.2, .inl (Blk.new _ _ _)⟩, Late.grown ((Below.refl _ _).alloc (Nat.le_refl _) _) hE.1.2.1, hE.1.alloc _, by simp; have := hE.2; omega⟩
  iterate 2
    apply Walk.one rfl rfl rfl
    case hrun =>
      intro c W hE hF
      have b5 := hE.1.get 0 rfl
      go_wp2_with (first | ((with_reducible refine look_load ?_); refine wpList_load_row rfl _ _ rfl _ rfl _ _ _ _ b5 Tryd.underlying27 rfl (by kernel_rfl) ?_) | fail)
      exact TextPost.mk ⟨Late.refl _, hE⟩
    case hv => rfl
  refine Walk.freeOp LateB.keep rfl rfl (by kernel_rfl) ?_ (fun u6 => ?_)
  · intro a c W hE
    go_wp2_with fail
    exact ⟨_, rfl, ⟨W.heap.size, rfl, hE.2, .inl (Blk.new _ _ _)⟩, Late.grown ((Below.refl _ _).alloc (Nat.le_refl _) _) hE.1.2.1, hE.1.alloc _, by simp; have := hE.2; omega⟩
  dsimp only [Act.put]
  simp only [List.setIfInBounds_toArray, List.set_cons_succ, List.set_cons_zero]
  refine Walk.freeOp LateB.keep rfl rfl (by kernel_rfl) ?_ (fun u7 => ?_)
  · intro a c W hE
    go_wp2_with fail
    exact ⟨_, rfl, ⟨W.heap.size, rfl, hE.2, .inl (Blk.new _ _ _)⟩, Late.grown ((Below.refl _ _).alloc (Nat.le_refl _) _) hE.1.2.1, hE.1.alloc _, by simp; have := hE.2; omega⟩
  dsimp only [Act.put]
  simp only [List.setIfInBounds_toArray, List.set_cons_succ, List.set_cons_zero]
  refine Walk.whatever (fun _ W => LateN x5.heap.size 27 #[.int .u8 1, .int .u32 167772161, .int .u32 167772162, .int .u16 0, .int .u16 0, .int .u8 5, .int .u8 0, .int .u8 11, .int .u8 1, .int .u32 0, .int .u32 0, .int .i64 0, .int .i64 30, .int .u8 6, .int .u32 167772161, .int .u32 167772162, .int .u16 1024, .int .u16 80, .int .u8 1] u6 W) ?_ rfl rfl rfl (by kernel_rfl) ?_ (fun uu => ?_)
  · exact fun _ => LateN.keep u6
  · intro c W hE hF
    obtain ⟨g, rfl, hg0, hg | hg⟩ := hF.tail.head
    all_goals
      refine wpList_store_row rfl _ _ _ rfl g #[.int .u8 1, .int .u32 167772161, .int .u32 167772162, .int .u16 0, .int .u16 0, .int .u8 5, .int .u8 0, .int .u8 11, .int .u8 1, .int .u32 0, .int .u32 0, .int .i64 0, .int .i64 30, .int .u8 6, .int .u32 167772161, .int .u32 167772162, .int .u16 1024, .int .u16 80, .int .u8 1] rfl rfl _ _ hg (by kernel_rfl) (by simp) (by simp [Value.oneCell']) ?_
      go_wp2_with fail
      refine ⟨undef, rfl, ⟨g, rfl, hg0, setRow_heap _ _ _ _ _ _ hg⟩, ?_, hE.1.rowFar (by omega) (by simp; omega) _, by simpa using hE.2⟩
    · exact Late.store hg (by omega)
    · exact Late.again hg (by omega)
  dsimp only [Act.put]
  refine Walk.whatever (fun _ W => LateN x5.heap.size 27 #[.int .u8 1, .int .u32 167772161, .int .u32 167772162, .int .u16 0, .int .u16 0, .int .u8 5, .int .u8 0, .int .u8 11, .int .u8 1, .int .u32 0, .int .u32 0, .int .i64 0, .int .i64 30, .int .u8 6, .int .u32 167772161, .int .u32 167772162, .int .u16 1024, .int .u16 80, .int .u8 1] u7 W) ?_ rfl rfl rfl (by kernel_rfl) ?_ (fun uu => ?_)
  · exact fun _ => LateN.keep u7
  · intro c W hE hF
    obtain ⟨g, rfl, hg0, hg | hg⟩ := hF.tail.head
    all_goals
      refine wpList_store_row rfl _ _ _ rfl g #[.int .u8 1, .int .u32 167772161, .int .u32 167772162, .int .u16 0, .int .u16 0, .int .u8 5, .int .u8 0, .int .u8 11, .int .u8 1, .int .u32 0, .int .u32 0, .int .i64 0, .int .i64 30, .int .u8 6, .int .u32 167772161, .int .u32 167772162, .int .u16 1024, .int .u16 80, .int .u8 1] rfl rfl _ _ hg (by kernel_rfl) (by simp) (by simp [Value.oneCell']) ?_
      go_wp2_with fail
      refine ⟨undef, rfl, ⟨g, rfl, hg0, setRow_heap _ _ _ _ _ _ hg⟩, ?_, hE.1.rowFar (by omega) (by simp; omega) _, by simpa using hE.2⟩
    · exact Late.store hg (by omega)
    · exact Late.again hg (by omega)
  dsimp only [Act.put]
  refine Walk.done (fun W hE hF => ?_)
  obtain ⟨g7, rfl, hg7, b7⟩ := hF.head
  obtain ⟨g6, rfl, hg6, b6⟩ := hF.tail.head
  have hS := hE.1
  have hlW := hE.2
  clear hE hF hSt
  have hc2 := (hS.get 3 rfl).cell
  have hcx := b6.cell
  have hfx := b6.frozen
  go_upto_region 12 with (fail)
  have hS2 := ((((((hS.setFar (p := ⟨g6, 13, none⟩) (by show w.heap.size ≤ g6; omega) (by simp; omega) (.int .u8 17)).setFar (p := ⟨g6, 14, none⟩) (by show w.heap.size ≤ g6; omega) (by simp; omega) (.int .u32 167772161)).setFar (p := ⟨g6, 15, none⟩) (by show w.heap.size ≤ g6; omega) (by simp; omega) (.int .u32 167772162)).setFar (p := ⟨g6, 16, none⟩) (by show w.heap.size ≤ g6; omega) (by simp; omega) (.int .u16 1024)).setFar (p := ⟨g6, 17, none⟩) (by show w.heap.size ≤ g6; omega) (by simp; omega) (.int .u16 80)).setFar (p := ⟨g6, 18, none⟩) (by show w.heap.size ≤ g6; omega) (by simp; omega) (.int .u8 2))
  have c6 : Blk _ g6 27 #[.int .u8 1, .int .u32 167772161, .int .u32 167772162, .int .u16 0, .int .u16 0, .int .u8 5, .int .u8 0, .int .u8 11, .int .u8 1, .int .u32 0, .int .u32 0, .int .i64 0, .int .i64 30, .int .u8 17, .int .u32 167772161, .int .u32 167772162, .int .u16 1024, .int .u16 80, .int .u8 2] := ((((((b6.set 13 (.int .u8 17)).set 14 (.int .u32 167772161)).set 15 (.int .u32 167772162)).set 16 (.int .u16 1024)).set 17 (.int .u16 80)).set 18 (.int .u8 2))
  have c7 : Blk ((((((W.setCell ⟨g6, 13, none⟩ (.int .u8 17)).setCell ⟨g6, 14, none⟩ (.int .u32 167772161)).setCell ⟨g6, 15, none⟩ (.int .u32 167772162)).setCell ⟨g6, 16, none⟩ (.int .u16 1024)).setCell ⟨g6, 17, none⟩ (.int .u16 80)).setCell ⟨g6, 18, none⟩ (.int .u8 2)) g7 27 #[.int .u8 1, .int .u32 167772161, .int .u32 167772162, .int .u16 0, .int .u16 0, .int .u8 5, .int .u8 0, .int .u8 11, .int .u8 1, .int .u32 0, .int .u32 0, .int .i64 0, .int .i64 30, .int .u8 6, .int .u32 167772161, .int .u32 167772162, .int .u16 1024, .int .u16 80, .int .u8 1] ∨ Blk ((((((W.setCell ⟨g6, 13, none⟩ (.int .u8 17)).setCell ⟨g6, 14, none⟩ (.int .u32 167772161)).setCell ⟨g6, 15, none⟩ (.int .u32 167772162)).setCell ⟨g6, 16, none⟩ (.int .u16 1024)).setCell ⟨g6, 17, none⟩ (.int .u16 80)).setCell ⟨g6, 18, none⟩ (.int .u8 2)) g7 27 #[.int .u8 1, .int .u32 167772161, .int .u32 167772162, .int .u16 0, .int .u16 0, .int .u8 5, .int .u8 0, .int .u8 11, .int .u8 1, .int .u32 0, .int .u32 0, .int .i64 0, .int .i64 30, .int .u8 17, .int .u32 167772161, .int .u32 167772162, .int .u16 1024, .int .u16 80, .int .u8 2] := by
    by_cases he : g7 = g6
    · subst he; exact .inr c6
    · exact .inl (((((((b7.far (p := ⟨g6, 13, none⟩) (by exact he) (.int .u8 17)).far (p := ⟨g6, 14, none⟩) (by exact he) (.int .u32 167772161)).far (p := ⟨g6, 15, none⟩) (by exact he) (.int .u32 167772162)).far (p := ⟨g6, 16, none⟩) (by exact he) (.int .u16 1024)).far (p := ⟨g6, 17, none⟩) (by exact he) (.int .u16 80)).far (p := ⟨g6, 18, none⟩) (by exact he) (.int .u8 2)))
  have hlW2 : x5.heap.size ≤ ((((((W.setCell ⟨g6, 13, none⟩ (.int .u8 17)).setCell ⟨g6, 14, none⟩ (.int .u32 167772161)).setCell ⟨g6, 15, none⟩ (.int .u32 167772162)).setCell ⟨g6, 16, none⟩ (.int .u16 1024)).setCell ⟨g6, 17, none⟩ (.int .u16 80)).setCell ⟨g6, 18, none⟩ (.int .u8 2)).heap.size := by simpa using hlW
  clear hc2 hcx hfx hS b6 b7
  generalize ((((((W.setCell ⟨g6, 13, none⟩ (.int .u8 17)).setCell ⟨g6, 14, none⟩ (.int .u32 167772161)).setCell ⟨g6, 15, none⟩ (.int .u32 167772162)).setCell ⟨g6, 16, none⟩ (.int .u16 1024)).setCell ⟨g6, 17, none⟩ (.int .u16 80)).setCell ⟨g6, 18, none⟩ (.int .u8 2)) = y6 at *
  have hc3 := (hS2.get 2 rfl).cell
  obtain ⟨z13, hz13⟩ : ∃ v, y6.cell? ⟨g7, 13, none⟩ = some v := by rcases c7 with h | h <;> exact ⟨_, h.cell 13⟩
  obtain ⟨z14, hz14⟩ : ∃ v, y6.cell? ⟨g7, 14, none⟩ = some v := by rcases c7 with h | h <;> exact ⟨_, h.cell 14⟩
  obtain ⟨z15, hz15⟩ : ∃ v, y6.cell? ⟨g7, 15, none⟩ = some v := by rcases c7 with h | h <;> exact ⟨_, h.cell 15⟩
  obtain ⟨z16, hz16⟩ : ∃ v, y6.cell? ⟨g7, 16, none⟩ = some v := by rcases c7 with h | h <;> exact ⟨_, h.cell 16⟩
  obtain ⟨z17, hz17⟩ : ∃ v, y6.cell? ⟨g7, 17, none⟩ = some v := by rcases c7 with h | h <;> exact ⟨_, h.cell 17⟩
  obtain ⟨z18, hz18⟩ : ∃ v, y6.cell? ⟨g7, 18, none⟩ = some v := by rcases c7 with h | h <;> exact ⟨_, h.cell 18⟩
  have hfx : ∀ i, y6.frozen? ⟨g7, i, none⟩ = false := fun i => by rcases c7 with h | h <;> exact h.frozen i
  have C7 := Lib.hid c7
  clear c7
  go_upto_region 13 with (fail)
  have hS3 := ((((((hS2.setFar (p := ⟨g7, 13, none⟩) (by show w.heap.size ≤ g7; omega) (by simp; omega) (.int .u8 1)).setFar (p := ⟨g7, 14, none⟩) (by show w.heap.size ≤ g7; omega) (by simp; omega) (.int .u32 167772161)).setFar (p := ⟨g7, 15, none⟩) (by show w.heap.size ≤ g7; omega) (by simp; omega) (.int .u32 167772162)).setFar (p := ⟨g7, 16, none⟩) (by show w.heap.size ≤ g7; omega) (by simp; omega) (.int .u16 7)).setFar (p := ⟨g7, 17, none⟩) (by show w.heap.size ≤ g7; omega) (by simp; omega) (.int .u16 7)).setFar (p := ⟨g7, 18, none⟩) (by show w.heap.size ≤ g7; omega) (by simp; omega) (.int .u8 4))
  have c7 : Blk ((((((y6.setCell ⟨g7, 13, none⟩ (.int .u8 1)).setCell ⟨g7, 14, none⟩ (.int .u32 167772161)).setCell ⟨g7, 15, none⟩ (.int .u32 167772162)).setCell ⟨g7, 16, none⟩ (.int .u16 7)).setCell ⟨g7, 17, none⟩ (.int .u16 7)).setCell ⟨g7, 18, none⟩ (.int .u8 4)) g7 27 #[.int .u8 1, .int .u32 167772161, .int .u32 167772162, .int .u16 0, .int .u16 0, .int .u8 5, .int .u8 0, .int .u8 11, .int .u8 1, .int .u32 0, .int .u32 0, .int .i64 0, .int .i64 30, .int .u8 1, .int .u32 167772161, .int .u32 167772162, .int .u16 7, .int .u16 7, .int .u8 4] := by
    rcases C7.out with h | h
    · exact ((((((h.set 13 (.int .u8 1)).set 14 (.int .u32 167772161)).set 15 (.int .u32 167772162)).set 16 (.int .u16 7)).set 17 (.int .u16 7)).set 18 (.int .u8 4))
    · exact ((((((h.set 13 (.int .u8 1)).set 14 (.int .u32 167772161)).set 15 (.int .u32 167772162)).set 16 (.int .u16 7)).set 17 (.int .u16 7)).set 18 (.int .u8 4))
  have d6 : ∃ C6, (C6 = #[.int .u8 1, .int .u32 167772161, .int .u32 167772162, .int .u16 0, .int .u16 0, .int .u8 5, .int .u8 0, .int .u8 11, .int .u8 1, .int .u32 0, .int .u32 0, .int .i64 0, .int .i64 30, .int .u8 17, .int .u32 167772161, .int .u32 167772162, .int .u16 1024, .int .u16 80, .int .u8 2] ∨ C6 = #[.int .u8 1, .int .u32 167772161, .int .u32 167772162, .int .u16 0, .int .u16 0, .int .u8 5, .int .u8 0, .int .u8 11, .int .u8 1, .int .u32 0, .int .u32 0, .int .i64 0, .int .i64 30, .int .u8 1, .int .u32 167772161, .int .u32 167772162, .int .u16 7, .int .u16 7, .int .u8 4]) ∧ Blk ((((((y6.setCell ⟨g7, 13, none⟩ (.int .u8 1)).setCell ⟨g7, 14, none⟩ (.int .u32 167772161)).setCell ⟨g7, 15, none⟩ (.int .u32 167772162)).setCell ⟨g7, 16, none⟩ (.int .u16 7)).setCell ⟨g7, 17, none⟩ (.int .u16 7)).setCell ⟨g7, 18, none⟩ (.int .u8 4)) g6 27 C6 := by
    by_cases he : g6 = g7
    · subst he; exact ⟨_, .inr rfl, c7⟩
    · exact ⟨_, .inl rfl, ((((((c6.far (p := ⟨g7, 13, none⟩) (by exact he) (.int .u8 1)).far (p := ⟨g7, 14, none⟩) (by exact he) (.int .u32 167772161)).far (p := ⟨g7, 15, none⟩) (by exact he) (.int .u32 167772162)).far (p := ⟨g7, 16, none⟩) (by exact he) (.int .u16 7)).far (p := ⟨g7, 17, none⟩) (by exact he) (.int .u16 7)).far (p := ⟨g7, 18, none⟩) (by exact he) (.int .u8 4))⟩
  have hlW3 : x5.heap.size ≤ ((((((y6.setCell ⟨g7, 13, none⟩ (.int .u8 1)).setCell ⟨g7, 14, none⟩ (.int .u32 167772161)).setCell ⟨g7, 15, none⟩ (.int .u32 167772162)).setCell ⟨g7, 16, none⟩ (.int .u16 7)).setCell ⟨g7, 17, none⟩ (.int .u16 7)).setCell ⟨g7, 18, none⟩ (.int .u8 4)).heap.size := by simpa using hlW2
  clear hc3 hfx hS2 c6 C7 hz13 hz14 hz15 hz16 hz17 hz18
  generalize ((((((y6.setCell ⟨g7, 13, none⟩ (.int .u8 1)).setCell ⟨g7, 14, none⟩ (.int .u32 167772161)).setCell ⟨g7, 15, none⟩ (.int .u32 167772162)).setCell ⟨g7, 16, none⟩ (.int .u16 7)).setCell ⟨g7, 17, none⟩ (.int .u16 7)).setCell ⟨g7, 18, none⟩ (.int .u8 4)) = y7 at *
  obtain ⟨C6, hC6, b6⟩ := d6
  have hSt := (hS3.cons c7).cons b6
  clear hS3 c7 b6
  have HC6s := Lib.hid (show C6.size = 19 by rcases hC6 with rfl | rfl <;> rfl)
  go_upto_region 14 with (fail)
  refine wp_name1 ?_
  intro y8 hb8 hs8 bN
  clear hs8
  replace hSt := (hSt.below hb8).cons bN
  clear hb8 bN
  have c6 := hSt.get 1 rfl
  have c7 := hSt.get 2 rfl
  have c5 := hSt.get 3 rfl
  have c4 := hSt.get 4 rfl
  have c3 := hSt.get 5 rfl
  have c2 := hSt.get 6 rfl
  have c1 := hSt.get 7 rfl
  obtain ⟨CB, hCB, hTab⟩ := tab_fill C6 hC6
  have HCB := Lib.hid hCB
  have HTab := Lib.hid hTab
  clear hC6 hCB hTab
  go_upto_region 15 with (first | ((with_reducible refine look_load ?_); (try simp only [Act.put, List.setIfInBounds_toArray, List.set_cons_succ, List.set_cons_zero]); first | (refine wpList_load_row rfl _ _ rfl _ (show _ = Value.pointer (some ⟨a1, 0, none⟩) from rfl) _ _ _ _ c1 Tryd.underlying27 rfl (by kernel_rfl) ?_) | (refine wpList_load_row rfl _ _ rfl _ (show _ = Value.pointer (some ⟨a2, 0, none⟩) from rfl) _ _ _ _ c2 Tryd.underlying27 rfl (by kernel_rfl) ?_) | (refine wpList_load_row rfl _ _ rfl _ (show _ = Value.pointer (some ⟨a3, 0, none⟩) from rfl) _ _ _ _ c3 Tryd.underlying27 rfl (by kernel_rfl) ?_) | (refine wpList_load_row rfl _ _ rfl _ (show _ = Value.pointer (some ⟨a4, 0, none⟩) from rfl) _ _ _ _ c4 Tryd.underlying27 rfl (by kernel_rfl) ?_) | (refine wpList_load_row rfl _ _ rfl _ (show _ = Value.pointer (some ⟨a5, 0, none⟩) from rfl) _ _ _ _ c5 Tryd.underlying27 rfl (by kernel_rfl) ?_) | (refine wpList_load_row rfl _ _ rfl _ (show _ = Value.pointer (some ⟨g7, 0, none⟩) from rfl) _ _ _ _ c7 Tryd.underlying27 rfl (by kernel_rfl) ?_) | (refine wpList_load_row rfl _ _ rfl _ (show _ = Value.pointer (some ⟨g6, 0, none⟩) from rfl) _ C6 _ _ c6 Tryd.underlying27 rfl (by rw [HC6s.out]; kernel_rfl) ?_)) | ((with_reducible refine look_build ?_); (try simp only [Act.put, List.setIfInBounds_toArray, List.set_cons_succ, List.set_cons_zero]); refine wpList_buildRows rfl _ _ 7 _ rfl Tryd.underlying32 19 (.agg #[.int .u8 0, .int .u32 0, .int .u32 0, .int .u16 0, .int .u16 0, .int .u8 0, .int .u8 0, .int .u8 0, .int .u8 0, .int .u32 0, .int .u32 0, .int .i64 0, .int .i64 0, .int .u8 0, .int .u32 0, .int .u32 0, .int .u16 0, .int .u16 0, .int .u8 0]) (by kernel_rfl) (tabF C6) (by simp only [List.map_toArray, List.map_cons, List.map_nil]; rfl) CB HCB.out (by decide) (by decide) ?_) | fail)
  refine wp_name1 ?_
  intro y9 hb9 hs9 bF
  clear hs9
  replace hSt := (hSt.below hb9).cons bF
  have hS2 : St w w.heap.size [(y8.heap.size, 27, CB), (y7.heap.size, 3, numsA)] y9 := ((St.nil hSt.1 hSt.2.1).cons (show Blk y9 y7.heap.size 3 numsA from hSt.get 1 rfl)).cons (hSt.get 0 rfl)
  have HS2 := Lib.hid hS2
  clear hSt c1 c2 c3 c4 c5 c6 c7 HCB hb9 bF hS2 HC6s hlW3 hlW2 hlW hg6 hg7 hl0 hl1 hl2 hl3 hl4 hlB
  generalize (Value.agg #[.int .u8 6, .int .u32 167772161, .int .u32 167772162, .int .u16 1024, .int .u16 80, .int .u8 1, .int .u8 2, .int .u8 0, .int .u8 0, .int .u32 1, .int .u32 0, .int .i64 512, .int .i64 0, .int .u8 0, .int .u32 0, .int .u32 0, .int .u16 0, .int .u16 0, .int .u8 0]) = q0 at *
  generalize (Value.agg #[.int .u8 6, .int .u32 167772161, .int .u32 167772162, .int .u16 1024, .int .u16 80]) = q1 at *
  generalize (Value.agg #[.int .u8 6, .int .u32 167772161, .int .u32 167772162, .int .u16 1024, .int .u16 80, .int .u8 2, .int .u8 0, .int .u8 0, .int .u8 0, .int .u32 0, .int .u32 0, .int .i64 0, .int .i64 5, .int .u8 0, .int .u32 0, .int .u32 0, .int .u16 0, .int .u16 0, .int .u8 0]) = q2 at *
  generalize (Value.agg #[.int .u8 6, .int .u32 167772161, .int .u32 167772162, .int .u16 1024, .int .u16 80, .int .u8 3, .int .u8 0, .int .u8 13, .int .u8 0, .int .u32 0, .int .u32 0, .int .i64 0, .int .i64 3, .int .u8 0, .int .u32 0, .int .u32 0, .int .u16 0, .int .u16 0, .int .u8 0]) = q3 at *
  generalize (Value.agg #[.int .u8 1, .int .u32 167772161, .int .u32 167772162, .int .u16 7, .int .u16 7, .int .u8 3, .int .u8 0, .int .u8 13, .int .u8 0, .int .u32 0, .int .u32 0, .int .i64 0, .int .i64 3, .int .u8 0, .int .u32 0, .int .u32 0, .int .u16 0, .int .u16 0, .int .u8 0]) = q4 at *
  generalize (Value.agg #[.int .u8 6, .int .u32 167772161, .int .u32 167772162, .int .u16 1024, .int .u16 80, .int .u8 5, .int .u8 0, .int .u8 11, .int .u8 1, .int .u32 0, .int .u32 0, .int .i64 0, .int .i64 30, .int .u8 6, .int .u32 167772161, .int .u32 167772162, .int .u16 1024, .int .u16 80, .int .u8 1]) = q5 at *
  generalize (Value.agg #[.int .u8 1, .int .u32 167772161, .int .u32 167772162, .int .u16 0, .int .u16 0, .int .u8 5, .int .u8 0, .int .u8 11, .int .u8 1, .int .u32 0, .int .u32 0, .int .i64 0, .int .i64 30, .int .u8 6, .int .u32 167772161, .int .u32 167772162, .int .u16 1024, .int .u16 80, .int .u8 1]) = q6 at *
  generalize (Value.agg #[.int .u8 17, .int .u32 167772161, .int .u32 167772162, .int .u16 1024, .int .u16 80]) = q7 at *
  generalize (Value.agg #[.int .u8 1, .int .u32 167772161, .int .u32 167772162, .int .u16 7, .int .u16 7]) = q8 at *
  generalize (Value.agg #[.int .u8 17, .int .u32 167772161, .int .u32 167772162, .int .u16 1024, .int .u16 80, .int .u8 2, .int .u8 0, .int .u8 0, .int .u8 0, .int .u32 0, .int .u32 0, .int .i64 0, .int .i64 5, .int .u8 0, .int .u32 0, .int .u32 0, .int .u16 0, .int .u16 0, .int .u8 0]) = q9 at *
  generalize (Value.agg #[.int .u8 1, .int .u32 167772161, .int .u32 167772162, .int .u16 7, .int .u16 7, .int .u8 4, .int .u8 0, .int .u8 0, .int .u8 0, .int .u32 0, .int .u32 0, .int .i64 0, .int .i64 3, .int .u8 0, .int .u32 0, .int .u32 0, .int .u16 0, .int .u16 0, .int .u8 0]) = q10 at *
  generalize (Value.agg #[.int .u8 1, .int .u32 167772161, .int .u32 167772162, .int .u16 0, .int .u16 0, .int .u8 5, .int .u8 0, .int .u8 11, .int .u8 1, .int .u32 0, .int .u32 0, .int .i64 0, .int .i64 30, .int .u8 1, .int .u32 167772161, .int .u32 167772162, .int .u16 7, .int .u16 7, .int .u8 4]) = q11 at *
  generalize y7.heap.size = nB at *
  generalize y8.heap.size = tB at *
  go_loopw [67] (SmRel w [(tB, 27, CB), (nB, 3, numsA)] 7) (fun i _ => 7 - (intOf i).toNat)
  case atStart => exact ⟨0, by omega, rfl, HS2.out⟩
  case round =>
    obtain ⟨i, hi, rfl, hS⟩ := hrel
    by_cases hlt : i < 7
    · have hlt2 : (i : Int) < 7 := by omega
      obtain ⟨x, hx, hcs⟩ := HTab.out i hlt
      have hr := (hS.get 0 rfl).range (i * 19) (l := x.cells) hcs
      have HG := Lib.hid hx
      have HS := Lib.hid hS
      clear hcs hx hS
      obtain ⟨⟨k0, k1, k2, k3, k4⟩, kind, flags, type, code, seqn, ackn, window, length, ⟨z0, z1, z2, z3, z4⟩, qkind⟩ := x
      dsimp only [Facts.cells, Key.cells, List.cons_append, List.nil_append] at hr
      go_upto_region 17 with (first | ((with_reducible refine look_load ?_); refine wpList_load_mid rfl _ _ rfl _ _ rfl _ _ hr Tryd.underlying27 rfl (by kernel_rfl) ?_) | ((with_reducible refine look_store ?_); refine wpList_store_new rfl _ _ _ rfl _ _ rfl rfl _ _ rfl (by kernel_rfl) (by simp) (by simp [Value.oneCell']) ?_) | fail)
      try dsimp only [Act.put]
      refine wp_name1 ?_
      intro y10 hb10 hs10 b10
      clear hs10 hr
      have HS3 := Lib.hid ((HS.out.below hb10).cons b10)
      have HF := Lib.hid HS.out.fresh
      clear HS hb10 b10
      generalize wr.heap.size = xB at *
      go_wp2_with fail
      go_loopw [72] (SmRel w [(xB, 27, #[.int .u8 k0, .int .u32 k1, .int .u32 k2, .int .u16 k3, .int .u16 k4, .int .u8 kind, .int .u8 flags, .int .u8 type, .int .u8 code, .int .u32 seqn, .int .u32 ackn, .int .i64 window, .int .i64 length, .int .u8 z0, .int .u32 z1, .int .u32 z2, .int .u16 z3, .int .u16 z4, .int .u8 qkind]), (tB, 27, CB), (nB, 3, numsA)] 19) (fun i _ => 19 - (intOf i).toNat)
      case atStart => exact ⟨0, by omega, rfl, HS3.out⟩
      case round =>
        obtain ⟨k, hk, rfl, hS⟩ := hrel
        obtain ⟨wk, rfl⟩ : ∃ wo : World, wo = wr := ⟨_, rfl⟩
        have HS4 := Lib.hid hS
        clear hS
        by_cases hk19 : k < 19
        · have hk2 : (k : Int) < 19 := by omega
          go_wp2_with fail
          go_loopw [77] (SmRel w [(xB, 27, #[.int .u8 k0, .int .u32 k1, .int .u32 k2, .int .u16 k3, .int .u16 k4, .int .u8 kind, .int .u8 flags, .int .u8 type, .int .u8 code, .int .u32 seqn, .int .u32 ackn, .int .i64 window, .int .i64 length, .int .u8 z0, .int .u32 z1, .int .u32 z2, .int .u16 z3, .int .u16 z4, .int .u8 qkind]), (tB, 27, CB), (nB, 3, numsA)] 37) (fun i _ => 37 - (intOf i).toNat)
          case atStart => exact ⟨0, by omega, rfl, HS4.out⟩
          case round =>
            obtain ⟨j, hj, rfl, hS⟩ := hrel
            have HS5 := Lib.hid hS
            by_cases hj37 : j < 37
            · have hj2 : (j : Int) < 37 := by omega
              have hn := (hS.get 2 rfl).cell j
              rw [numsA_at j hj37] at hn
              clear hS
              obtain ⟨n0, n1⟩ := nums_bd j hj37
              obtain ⟨m, hm⟩ : ∃ m, m = (k + j) % 37 := ⟨_, rfl⟩
              have hm37 : m < 37 := by omega
              have hmi : ((k : Int) + (j : Int)) % 37 = (m : Int) := by omega
              have Hm := Lib.hid (numsA_at m hm37)
              obtain ⟨o0, o1⟩ := nums_bd m hm37
              have hm1 : (m : Int) < 37 := by omega
              have HC := Lib.hid (fun W => show Calls Tryd.prog 19 #[.agg #[.int .u8 k0, .int .u32 k1, .int .u32 k2, .int .u16 k3, .int .u16 k4, .int .u8 kind, .int .u8 flags, .int .u8 type, .int .u8 code, .int .u32 seqn, .int .u32 ackn, .int .i64 window, .int .i64 length, .int .u8 z0, .int .u32 z1, .int .u32 z2, .int .u16 z3, .int .u16 z4, .int .u8 qkind], .int .i64 k, .int .i64 (nums.getD j 0)] W _ from changed_any (⟨⟨k0, k1, k2, k3, k4⟩, kind, flags, type, code, seqn, ackn, window, length, ⟨z0, z1, z2, z3, z4⟩, qkind⟩ : Facts) k (nums.getD j 0) W HG.out.ok (by omega) n0 n1)
              clear hm
              generalize nums.getD j 0 = n at *
              generalize nums.getD m 0 = n2 at *
              go_upto_region 23 with (fail)
              refine wp_region_walk0 (by kernel_rfl) (fun _ W => St w w.heap.size [(xB, 27, #[.int .u8 k0, .int .u32 k1, .int .u32 k2, .int .u16 k3, .int .u16 k4, .int .u8 kind, .int .u8 flags, .int .u8 type, .int .u8 code, .int .u32 seqn, .int .u32 ackn, .int .i64 window, .int .i64 length, .int .u8 z0, .int .u32 z1, .int .u32 z2, .int .u16 z3, .int .u16 z4, .int .u8 qkind]), (tB, 27, CB), (nB, 3, numsA)] W) [] Grow [0, 1, 2, 4, 5, 6, 7, 8, 3, 9, 10, 11, 12, 13, 14, 16, 17, 18, 19, 20, 21, 22, 23, 24, 25, 26, 27, 28, 29, 30, 32, 33, 15, 31, 34, 35, 36] (by kernel_rfl) HS5.out.drew ?_
              iterate 8
                apply Walk.one rfl rfl rfl
                case hrun =>
                  intro c W hE hF
                  have hb := hE.get 0 rfl
                  have hm2 := ((hE.get 2 rfl).cell m).trans Hm.out
                  go_wp2_with (first | ((with_reducible refine look_load ?_); refine wpList_load_row rfl _ _ rfl _ rfl _ _ _ _ hb Tryd.underlying27 rfl (by kernel_rfl) ?_) | fail)
                  exact TextPost.mk ⟨Grow.refl _, hE⟩
                case hv => rfl
              refine Walk.anyOf Facts.val facts_val_inj (fun g _ => g.Ok) (fun _ _ _ h _ => h) rfl rfl rfl (by kernel_rfl) (by kernel_rfl) ?_ (fun g1 => ?_)
              · intro c W hE hF
                go_wp2_with fail
                refine (HC.out W).mono ?_
                rintro e W2 ⟨g, hg, rfl, l⟩
                go_wp2_with fail
                exact ⟨g, rfl, hg, l, hE.below l⟩
              dsimp only [Act.put]
              simp only [List.setIfInBounds_toArray, List.set_cons_succ, List.set_cons_zero]
              apply Walk.one rfl rfl rfl
              case hrun =>
                intro c W hE hF
                go_wp2_with fail
                refine (tellsI_any _ _ _ W hF.head (by omega) (by omega) (by omega) (Hs.out.below hE.1 (Nat.le_refl _))).mono ?_
                rintro e W2 ⟨rfl, l⟩
                go_wp2_with fail
                exact TextPost.mk ⟨l, hE.below l⟩
              case hv => rfl
              iterate 22
                apply Walk.one rfl rfl rfl
                case hrun =>
                  intro c W hE hF
                  have hb := hE.get 0 rfl
                  have hm2 := ((hE.get 2 rfl).cell m).trans Hm.out
                  go_wp2_with (first | ((with_reducible refine look_load ?_); refine wpList_load_g rfl _ _ rfl _ rfl _ _ _ _ hb Tryd.underlying27 rfl (by kernel_rfl) ?_) | fail)
                  exact TextPost.mk ⟨Grow.refl _, hE⟩
                case hv => rfl
              clear hmi
              refine Walk.anyOf Facts.val facts_val_inj (fun g _ => g.Ok) (fun _ _ _ h _ => h) rfl rfl rfl (by kernel_rfl) (by kernel_rfl) ?_ (fun g2 => ?_)
              · intro c W hE hF
                go_wp2_with fail
                refine (HC.out W).mono ?_
                rintro e W2 ⟨g, hg, rfl, l⟩
                go_wp2_with fail
                exact ⟨g, rfl, hg, l, hE.below l⟩
              dsimp only [Act.put]
              simp only [List.setIfInBounds_toArray, List.set_cons_succ, List.set_cons_zero]
              refine Walk.anyOf Facts.val facts_val_inj (fun g _ => g.Ok) (fun _ _ _ h _ => h) rfl rfl rfl (by kernel_rfl) (by kernel_rfl) ?_ (fun g3 => ?_)
              · intro c W hE hF
                go_wp2_with fail
                refine (changedI _ _ _ W hF.head (by omega) (by omega) o0 o1).mono ?_
                rintro e W2 ⟨g, hg, rfl, l⟩
                go_wp2_with fail
                exact ⟨g, rfl, hg, l, hE.below l⟩
              dsimp only [Act.put]
              simp only [List.setIfInBounds_toArray, List.set_cons_succ, List.set_cons_zero]
              apply Walk.one rfl rfl rfl
              case hrun =>
                intro c W hE hF
                go_wp2_with fail
                refine (tellsI_any _ _ _ W hF.head (by omega) (by omega) (by omega) (Hs.out.below hE.1 (Nat.le_refl _))).mono ?_
                rintro e W2 ⟨rfl, l⟩
                go_wp2_with fail
                exact TextPost.mk ⟨l, hE.below l⟩
              case hv => rfl
              iterate 2
                apply Walk.one rfl rfl rfl
                case hrun =>
                  intro c W hE hF
                  go_wp2_with fail
                  exact TextPost.mk ⟨Grow.refl _, hE⟩
                case hv => rfl
              refine Walk.done (fun W hE hF => ?_)
              have HS6 := Lib.hid hE
              clear hE hF
              go_wp2_with fail
              exact ⟨⟨j + 1, by omega, by go_num, HS6.out⟩, by simp [intOf]; omega⟩
            · go_wp2_with fail
              exact ⟨⟨k + 1, by omega, by go_num, HS5.out⟩, by simp [intOf]; omega⟩
        · by_cases h1 : kind = 1
          · subst h1
            have hbig : Facts.big ⟨⟨k0, k1, k2, k3, k4⟩, 1, flags, type, code, seqn, ackn, window, length, ⟨z0, z1, z2, z3, z4⟩, qkind⟩ = ⟨⟨k0, k1, k2, k3, k4⟩, 1, flags, type, code, seqn, ackn, window, 65495, ⟨z0, z1, z2, z3, z4⟩, qkind⟩ := by simp [Facts.big]
            have hok := HG.out.big_ok
            have hmade := HG.out.big_made
            rw [hbig] at hok hmade
            have HB1 := Lib.hid (fun W h => show Calls Tryd.prog 20 #[.agg #[.int .u8 k0, .int .u32 k1, .int .u32 k2, .int .u16 k3, .int .u16 k4, .int .u8 1, .int .u8 flags, .int .u8 type, .int .u8 code, .int .u32 seqn, .int .u32 ackn, .int .i64 window, .int .i64 65495, .int .u8 z0, .int .u32 z1, .int .u32 z2, .int .u16 z3, .int .u16 z4, .int .u8 qkind]] W _ from build_all (⟨⟨k0, k1, k2, k3, k4⟩, 1, flags, type, code, seqn, ackn, window, 65495, ⟨z0, z1, z2, z3, z4⟩, qkind⟩ : Facts) W hok h)
            have HB2 := Lib.hid (fun W => show Calls Tryd.prog 21 #[.agg #[.int .u8 k0, .int .u32 k1, .int .u32 k2, .int .u16 k3, .int .u16 k4, .int .u8 1, .int .u8 flags, .int .u8 type, .int .u8 code, .int .u32 seqn, .int .u32 ackn, .int .i64 window, .int .i64 65495, .int .u8 z0, .int .u32 z1, .int .u32 z2, .int .u16 z3, .int .u16 z4, .int .u8 qkind]] W _ from rBuild_all (⟨⟨k0, k1, k2, k3, k4⟩, 1, flags, type, code, seqn, ackn, window, 65495, ⟨z0, z1, z2, z3, z4⟩, qkind⟩ : Facts) W hok)
            rw [hmade.1, hmade.2] at HB1 HB2
            have HL := Lib.hid hmade.1
            clear hbig hok hmade
            generalize (Facts.madeL (⟨⟨k0, k1, k2, k3, k4⟩, 1, flags, type, code, seqn, ackn, window, 65495, ⟨z0, z1, z2, z3, z4⟩, qkind⟩ : Facts)) = ml at *
            have hc := (HS4.out.get 0 rfl).cell
            have hfz := (HS4.out.get 0 rfl).frozen
            go_upto_region 30 with (fail)
            have hS5 := ((HS4.out.setHead HF.out 12 (.int .i64 65507)).setHead HF.out 12 (.int .i64 65495))
            simp only [List.setIfInBounds_toArray, List.set_cons_succ, List.set_cons_zero] at hS5
            clear hc hfz
            generalize (wk.setCell ⟨xB, 12, none⟩ (.int .i64 65507)).setCell ⟨xB, 12, none⟩ (.int .i64 65495) = wr3 at *
            have hb := hS5.get 0 rfl
            go_wp2_with (first | ((with_reducible refine look_load ?_); refine wpList_load_row rfl _ _ rfl _ rfl _ _ _ _ hb Tryd.underlying27 rfl (by kernel_rfl) ?_) | fail)
            refine (HB1.out _ (Hs.out.below hS5.1 (Nat.le_refl _))).mono ?_
            rintro e w4 ⟨A, ca, rfl, o4, l4⟩
            have hS6 := hS5.below l4
            have hb6 := hS6.get 0 rfl
            clear hb
            go_wp2_with (first | ((with_reducible refine look_load ?_); refine wpList_load_row rfl _ _ rfl _ rfl _ _ _ _ hb6 Tryd.underlying27 rfl (by kernel_rfl) ?_) | fail)
            refine (HB2.out _).mono ?_
            rintro e w5 ⟨B, cb, rfl, o5, l5⟩
            have hS7 := hS6.below l5
            have hA : Rd w5 w5.heap.size A .u8 ml := (o4.below l5 (Nat.le_refl _)).rd
            have hB := o5.rd
            clear hb6
            go_wp2_with fail
            refine (same_any A B ca cb 65535 ml _ HL.out (by decide) hA hB).mono ?_
            rintro e w6 ⟨rfl, l6⟩
            have hS8 := Lib.hid (hS7.below l6)
            clear hA hB hS5 hS6 hS7 o4 o5 l4 l5 l6
            go_wp2_with fail
            exact ⟨⟨i + 1, by omega, by go_num, ((St.nil hS8.out.1 hS8.out.2.1).cons (hS8.out.get 2 rfl)).cons (hS8.out.get 1 rfl)⟩, by simp [intOf]; omega⟩
          · have h2 : (kind == 1) = false := by simpa using h1
            have hbig : Facts.big ⟨⟨k0, k1, k2, k3, k4⟩, kind, flags, type, code, seqn, ackn, window, length, ⟨z0, z1, z2, z3, z4⟩, qkind⟩ = ⟨⟨k0, k1, k2, k3, k4⟩, kind, flags, type, code, seqn, ackn, window, 65507, ⟨z0, z1, z2, z3, z4⟩, qkind⟩ := by simp [Facts.big, h1]
            have hok := HG.out.big_ok
            have hmade := HG.out.big_made
            rw [hbig] at hok hmade
            have HB1 := Lib.hid (fun W h => show Calls Tryd.prog 20 #[.agg #[.int .u8 k0, .int .u32 k1, .int .u32 k2, .int .u16 k3, .int .u16 k4, .int .u8 kind, .int .u8 flags, .int .u8 type, .int .u8 code, .int .u32 seqn, .int .u32 ackn, .int .i64 window, .int .i64 65507, .int .u8 z0, .int .u32 z1, .int .u32 z2, .int .u16 z3, .int .u16 z4, .int .u8 qkind]] W _ from build_all (⟨⟨k0, k1, k2, k3, k4⟩, kind, flags, type, code, seqn, ackn, window, 65507, ⟨z0, z1, z2, z3, z4⟩, qkind⟩ : Facts) W hok h)
            have HB2 := Lib.hid (fun W => show Calls Tryd.prog 21 #[.agg #[.int .u8 k0, .int .u32 k1, .int .u32 k2, .int .u16 k3, .int .u16 k4, .int .u8 kind, .int .u8 flags, .int .u8 type, .int .u8 code, .int .u32 seqn, .int .u32 ackn, .int .i64 window, .int .i64 65507, .int .u8 z0, .int .u32 z1, .int .u32 z2, .int .u16 z3, .int .u16 z4, .int .u8 qkind]] W _ from rBuild_all (⟨⟨k0, k1, k2, k3, k4⟩, kind, flags, type, code, seqn, ackn, window, 65507, ⟨z0, z1, z2, z3, z4⟩, qkind⟩ : Facts) W hok)
            rw [hmade.1, hmade.2] at HB1 HB2
            have HL := Lib.hid hmade.1
            clear hbig hok hmade
            generalize (Facts.madeL (⟨⟨k0, k1, k2, k3, k4⟩, kind, flags, type, code, seqn, ackn, window, 65507, ⟨z0, z1, z2, z3, z4⟩, qkind⟩ : Facts)) = ml at *
            have hc := (HS4.out.get 0 rfl).cell
            have hfz := (HS4.out.get 0 rfl).frozen
            go_upto_region 30 with (fail)
            have hS5 := (HS4.out.setHead HF.out 12 (.int .i64 65507))
            simp only [List.setIfInBounds_toArray, List.set_cons_succ, List.set_cons_zero] at hS5
            clear hc hfz
            generalize (wk.setCell ⟨xB, 12, none⟩ (.int .i64 65507)) = wr3 at *
            have hb := hS5.get 0 rfl
            go_wp2_with (first | ((with_reducible refine look_load ?_); refine wpList_load_row rfl _ _ rfl _ rfl _ _ _ _ hb Tryd.underlying27 rfl (by kernel_rfl) ?_) | fail)
            refine (HB1.out _ (Hs.out.below hS5.1 (Nat.le_refl _))).mono ?_
            rintro e w4 ⟨A, ca, rfl, o4, l4⟩
            have hS6 := hS5.below l4
            have hb6 := hS6.get 0 rfl
            clear hb
            go_wp2_with (first | ((with_reducible refine look_load ?_); refine wpList_load_row rfl _ _ rfl _ rfl _ _ _ _ hb6 Tryd.underlying27 rfl (by kernel_rfl) ?_) | fail)
            refine (HB2.out _).mono ?_
            rintro e w5 ⟨B, cb, rfl, o5, l5⟩
            have hS7 := hS6.below l5
            have hA : Rd w5 w5.heap.size A .u8 ml := (o4.below l5 (Nat.le_refl _)).rd
            have hB := o5.rd
            clear hb6
            go_wp2_with fail
            refine (same_any A B ca cb 65535 ml _ HL.out (by decide) hA hB).mono ?_
            rintro e w6 ⟨rfl, l6⟩
            have hS8 := Lib.hid (hS7.below l6)
            clear hA hB hS5 hS6 hS7 o4 o5 l4 l5 l6
            go_wp2_with fail
            exact ⟨⟨i + 1, by omega, by go_num, ((St.nil hS8.out.1 hS8.out.2.1).cons (hS8.out.get 2 rfl)).cons (hS8.out.get 1 rfl)⟩, by simp [intOf]; omega⟩
    · have HS9 := Lib.hid hS
      clear hS
      obtain rfl : i = 7 := by omega
      go_wp2_with fail
      refine (awake_any _ (Hs.out.below HS9.out.1 (Nat.le_refl _))).mono ?_
      rintro e w9 ⟨rfl, l9⟩
      go_wp2_with fail
      go_ret
      exact ⟨rfl, HS9.out.1.trans (l9.mono HS9.out.2.1)⟩

end Go.Proofs.YtebeekjcepjcnaaDoor
