/-
  Package opts: the greatest of some bytes; Routed.
  A range over a function whose iterator stores into one box of its own between two rounds (csum's words do not; opts' options do): what the caller owes, and what it gets.
-/
import Derived.Test.YtebeekjcepjcnaaGreatDoorROptsa
namespace Go.Proofs.YtebeekjcepjcnaaGreatDoor
open Go.RowKit
def maxL (l : List Int) : Int := l.foldl max 0
theorem maxL_snoc (l : List Int) (x : Int) : maxL (l ++ [x]) = max (maxL l) x := by simp [maxL]
theorem foldl_max_any (l : List Int) : ∀ s, decide (0 < l.foldl max s) = (decide (0 < s) || l.any fun x => decide (0 < x)) := by
  induction l with
  | nil => intro s; rw [List.foldl_nil, List.any_nil, Bool.or_false]
  | cons x l ih =>
    intro s
    rw [List.foldl_cons, ih, List.any_cons, ← Bool.or_assoc]
    congr 1
    rw [Bool.eq_iff_iff]; simp; omega
theorem maxL_any (l : List Int) : decide (0 < maxL l) = l.any fun x => decide (0 < x) := by
  rw [maxL, foldl_max_any]; simp
set_option maxHeartbeats 1000000 in
theorem slMax_any (A : Option Addr) (cap n : Nat) (d : List Int) (w : World) (hn : d.length = n) (h0 : 0 < n) (hl : n ≤ 1000000) (hB : Byt d) (hr : Rd w w.heap.size A .u8 d) :
    Calls Tryz.prog 103 #[.slice A n cap] w fun e w' => e = .returned (.int .u8 (maxL d)) ∧ w = w' := by
  obtain ⟨b, off, rfl, hbl, hc⟩ := hr.at0 (by omega)
  have c0 := hc 0 (by omega)
  rw [Nat.add_zero] at c0
  have Hm1 := Lib.hid (show maxL (d.take 1) = d.getD 0 0 by
    rw [take_succ_getD d 0 (by omega)]; simp [maxL]; have := (hB.at_ 0).1; rw [List.getD_eq_getElem?_getD] at this; omega)
  have Hc := Lib.hid hc
  have Hn := Lib.hid hn
  have HB := Lib.hid hB
  clear hc hn hB hr
  have gi : (0 : Int) < n := by omega
  have g1 : decide ((n : Int) < 1) = false := by simp; omega
  go_enter Tryz.func103, Tryz.ntmps103
  go_wp2
  go_loop [3, 4] (fun v i => ∃ k : Nat, 1 ≤ k ∧ k ≤ n ∧ i = .int .i64 k ∧ v = .int .u8 (maxL (d.take k))) (fun _ i => n - (intOf i).toNat)
  case atStart => exact ⟨1, by omega, by omega, rfl, by rw [Hm1.out, List.getD_eq_getElem?_getD]⟩
  case round =>
    obtain ⟨k, hk1, hk, rfl, rfl⟩ := hrel
    by_cases hlt : k < n
    · have hcell := Hc.out k (by rw [Hn.out]; exact hlt)
      have Hs := Lib.hid ((congrArg maxL (take_succ_getD d k (by rw [Hn.out]; exact hlt))).trans (maxL_snoc _ _))
      generalize maxL (d.take k) = M at *
      generalize d.getD k 0 = x at *
      have hi2 : (k : Int) < n := by omega
      go_wp2
      go_round
      case rel => exact ⟨k + 1, by omega, by omega, by go_num, by rw [Hs.out]; congr 1; omega⟩
      case measure => simp [intOf]; omega
    · obtain rfl : k = n := by omega
      have Hw := Lib.hid (show maxL (d.take k) = maxL d by rw [← Hn.out, List.take_length])
      rw [Hw.out]
      go_wp2
      go_ret
      exact ⟨rfl, rfl⟩

/-! ### A slice of options: of each its kind is known -/
def OptsAt (W : World) (B : Nat) (A : Option Addr) (ks : List Int) : Prop :=
  ∀ j, j < ks.length → ∃ b off v, A = some ⟨b, off, none⟩ ∧ b < B ∧ v.oneCell' = true ∧ W.cell? ⟨b, off + j * 2, none⟩ = some (.int .u8 (ks.getD j 0)) ∧ W.cell? ⟨b, off + j * 2 + 1, none⟩ = some v
theorem OptsAt.below {W W' : World} {B C : Nat} {A : Option Addr} {ks : List Int} (h : OptsAt W B A ks) (hb : Below C W W') (hC : B ≤ C) : OptsAt W' B A ks := fun j hj => by
  obtain ⟨b, off, v, e, hB, h1, h2, h3⟩ := h j hj
  exact ⟨b, off, v, e, hB, h1, (hb.cell (p := ⟨b, off + j * 2, none⟩) (by show b < C; omega)).trans h2, (hb.cell (p := ⟨b, off + j * 2 + 1, none⟩) (by show b < C; omega)).trans h3⟩
set_option maxHeartbeats 400000 in
theorem routed1_any (k : Int) (v : Value) (w : World) : Calls Tryz.prog 87 #[.agg #[.int .u8 k, v]] w fun e w' => e = .returned (.bool (optGroup k == 3)) ∧ Below w.heap.size w w' := by
  have Hg := Lib.hid (show (optGroup k == 3) = ((optGroup k : Int) == 3) by rw [Bool.eq_iff_iff]; simp; omega)
  rw [Hg.out]
  clear Hg
  have HG := Lib.hid (fun W => optGroup_any k W)
  generalize (optGroup k : Int) = g at *
  go_enter Tryz.func87, Tryz.ntmps87
  go_wp2_with fail
  refine (HG.out _).mono ?_
  rintro e w1 ⟨rfl, rfl⟩
  go_wp2_with fail
  go_ret
  exact ⟨rfl, (Below.refl _ _).alloc (Nat.le_refl _) _⟩
def RoutedAt (w : World) (n : Nat) (ks : List Int) (i : Value) (W : World) : Prop := ∃ k : Nat, k ≤ n ∧ i = .int .i64 k ∧ routedB (ks.take k) = false ∧ Below w.heap.size w W
def SomeIdx (w : World) (B : Bool) (e : Ending) (w' : World) : Prop := ∃ r : Int, e = .returned (.int .i64 r) ∧ -1 ≤ r ∧ r ≤ 1000000 ∧ decide (0 ≤ r) = B ∧ Below w.heap.size w w'
theorem routed_snoc (l : List Int) (x : Int) : routedB (l ++ [x]) = (routedB l || optGroup x == 3) := by simp [routedB]
set_option maxRecDepth 100000 in
set_option maxHeartbeats 1000000 in
theorem indexFunc_any (A : Option Addr) (cap n : Nat) (ks : List Int) (w : World) (hn : ks.length = n) (hl : n ≤ 1000000) (hr : OptsAt w w.heap.size A ks) :
    Calls Tryz.prog 104 #[.slice A n cap, .func (.func 87) #[] #[]] w (SomeIdx w (routedB ks)) := by
  have HR := Lib.hid hr
  have Hn := Lib.hid hn
  clear hr hn
  go_enter Tryz.func104, Tryz.ntmps104
  go_wp2
  go_loopw [8] (RoutedAt w n ks) (fun i _ => n - (intOf i).toNat)
  case atStart => exact ⟨0, by omega, rfl, rfl, Below.refl _ _⟩
  case round =>
    obtain ⟨k, hk, rfl, hN, hbl⟩ := hrel
    have HN := Lib.hid hN
    have HB := Lib.hid hbl
    have hz := hbl.size
    clear hN hbl
    by_cases hlt : k < n
    · obtain ⟨b, off, v, rfl, hbb, hv, c0, c1⟩ := HR.out.below HB.out (Nat.le_refl _) k (by rw [Hn.out]; exact hlt)
      have Hs := Lib.hid ((congrArg routedB (take_succ_getD ks k (by rw [Hn.out]; exact hlt))).trans (routed_snoc _ _))
      have HX := Lib.hid (fun W => routed1_any (ks.getD k 0) v W)
      have Hall := Lib.hid (show (optGroup (ks.getD k 0) == 3) = true → routedB ks = true from fun h => by
        unfold routedB
        rw [List.any_eq_true]
        refine ⟨ks.getD k 0, ?_, h⟩
        rw [List.getD_eq_getElem?_getD, List.getElem?_eq_getElem (by rw [Hn.out]; exact hlt)]
        exact List.getElem_mem _)
      rw [HN.out, Bool.false_or] at Hs
      generalize ks.getD k 0 = x at *
      have hi2 : (k : Int) < n := by omega
      rcases hx : (optGroup x == 3) with _ | _
      · rw [hx] at HX Hs
        go_wp2_with fail
        refine (HX.out _).mono ?_
        rintro e w2 ⟨rfl, l2⟩
        have HB2 := Lib.hid (HB.out.trans (l2.mono hz))
        clear c0 c1 l2
        go_wp2_with fail
        go_roundw
        case rel => exact ⟨k + 1, by omega, by go_num, Hs.out, HB2.out⟩
        case measure => simp [intOf]; omega
      · have Hall2 := Lib.hid (Hall.out hx)
        rw [hx] at HX
        go_wp2_with fail
        refine (HX.out _).mono ?_
        rintro e w2 ⟨rfl, l2⟩
        have HB2 := Lib.hid (HB.out.trans (l2.mono hz))
        clear c0 c1 l2
        go_wp2_with fail
        go_ret
        exact ⟨k, rfl, by omega, by omega, by rw [Hall2.out]; simp, HB2.out⟩
    · obtain rfl : k = n := by omega
      have Hw := Lib.hid (show routedB ks = false by have := HN.out; rwa [← Hn.out, List.take_length] at this)
      go_wp2_with fail
      go_ret
      exact ⟨-1, rfl, by omega, by omega, by rw [Hw.out]; rfl, HB.out⟩

set_option maxHeartbeats 400000 in
theorem containsFunc_any (A : Option Addr) (cap n : Nat) (ks : List Int) (w : World) (hn : ks.length = n) (hl : n ≤ 1000000) (hr : OptsAt w w.heap.size A ks) :
    Calls Tryz.prog 86 #[.slice A n cap, .func (.func 87) #[] #[]] w fun e w' => e = .returned (.bool (routedB ks)) ∧ Below w.heap.size w w' := by
  have H := Lib.hid (indexFunc_any A cap n ks w hn hl hr)
  clear hr hn
  go_enter Tryz.func86, Tryz.ntmps86
  go_wp2_with fail
  refine H.out.mono ?_
  rintro e w' ⟨r, rfl, h0, h1, hB, l⟩
  have HBx := Lib.hid hB
  clear hB
  go_wp2_with fail
  go_ret
  exact ⟨by rw [← HBx.out]; rfl, l⟩
set_option maxHeartbeats 400000 in
theorem routed_any (A : Option Addr) (cap n : Nat) (ks : List Int) (w : World) (hn : ks.length = n) (hl : n ≤ 1000000) (hr : OptsAt w w.heap.size A ks) :
    Calls Tryz.prog 62 #[.slice A n cap] w fun e w' => e = .returned (.bool (routedB ks)) ∧ Below w.heap.size w w' := by
  have H := Lib.hid (containsFunc_any A cap n ks w hn hl hr)
  clear hr hn
  go_enter Tryz.func62, Tryz.ntmps62
  go_wp2_with fail
  refine H.out.mono ?_
  rintro e w' ⟨rfl, l⟩
  go_wp2_with fail
  go_ret
  exact ⟨rfl, l⟩
end Go.Proofs.YtebeekjcepjcnaaGreatDoor
namespace Go.Proofs.YtebeekjcepjcnaaGreatDoor
open Go.RowKit Go.Shelf

/-- What new blocks, a store into the box Bs, and a turn of a block that is no cells and lies at or beyond B leave true. -/
def Bears {β : Type} (B Bs : Nat) (I : β → World → Prop) : Prop :=
  ∀ s W W' row, I s W → W.grownBy W' row → (∀ r, row = some r → r = Bs ∨ (B ≤ r ∧ ∃ o : Obj, W.heap[r]? = some o ∧ o.isCells = false)) → I s W'
/-- The same, without the turns. -/
def BearsBox {β : Type} (Bs : Nat) (J : β → World → Prop) : Prop := ∀ s W W' row, J s W → W.grownBy W' row → (row = none ∨ row = some Bs) → J s W'
section
variable {β : Type} {B Bs : Nat} {I I' : β → World → Prop}
theorem Bears.and (h : Bears B Bs I) (h' : Bears B Bs I') : Bears B Bs (fun s W => I s W ∧ I' s W) := fun s W W' row hs hg hr => ⟨h s W W' row hs.1 hg hr, h' s W W' row hs.2 hg hr⟩
theorem Bears.put (h : Bears B Bs I) {s : β} {W : World} {l : Nat} {o : Obj} (o' : Obj) (hs : I s W) (hB : B ≤ l) (hl : W.heap[l]? = some o) (ho : o.isCells = false) : I s (W.putObj l o') :=
  h s W _ (some l) hs (grownBy_putObj' W l o') (fun r e => by cases e; exact .inr ⟨hB, o, hl, ho⟩)
theorem Bears.new (h : Bears B Bs I) {s : β} {W : World} (o : Obj) (hs : I s W) : I s (W.alloc o) := h s W _ none hs (World.grownBy_alloc W o none) (fun r e => by cases e)
end
/-- How a round's body may end. -/
def RoundEnd {α : Type} (B n₀ Bs : Nat) (I : List α → World → Prop) (Ix : Code → List α → World → Prop) (xs : List α) (W : World) : Exit → Act → World → Prop
  | .normal, _, W' => KeepsFrom B W W' ∧ KpB n₀ Bs W W' ∧ I xs W'
  | .ret, _, W' => KeepsFrom B W W' ∧ Ix .ret xs W'
  | _, _, _ => False
/-- The iterator's contract. -/
def Yields {α : Type} (F : Fence) (n : Nat) (P : Program) (gf : Nat) (lb : Array Value) (encs : α → Array Value) (n₀ Bs : Nat) (S : List α → Prop) (N : Nat) (w : World) : Prop :=
  ∀ (l : Nat) (J Jx : List α → World → Prop) (W : World), Below w.heap.size w W → BearsBox Bs J → BearsBox Bs Jx →
    (∀ pre x W1, J pre W1 → pre.length < N → YieldAt F (n - 1) P l (encs x) W1 fun e W' =>
      (e = .returned (.bool true) ∧ J (pre ++ [x]) W' ∧ KpB n₀ Bs W1 W') ∨ (e = .returned (.bool false) ∧ Jx (pre ++ [x]) W')) →
    J [] W →
    CallsIn F n P gf (#[.func (.yield l) #[] #[]] ++ lb) W fun e W' => (∃ v, e = .returned v) ∧ ((∃ xs, S xs ∧ J xs W') ∨ (∃ pre, (∃ t, S (pre ++ t)) ∧ Jx pre W'))

theorem wpIn_rangeFunc_box {α : Type} {F : Fence} {n : Nat} {P : Program} {g : Operand} {ps : Array Tmp} {assign body : Code} {Q : Exit → Act → World → Prop} {a : Act} {w : World}
    (hro : F.round = none) (h1 : 1 ≤ n) {gf : Nat} {lb : Array Value} (hg : a.eval g = .func (.func gf) #[] lb) (hFg : F.fn gf) (eg : ∀ args w, (callFunc gf args).run P w = .ok (.enter gf args) w)
    {encs : α → Array Value} {n₀ Bs : Nat} {S : List α → Prop} {N : Nat} (hseq : Yields F (n - 1) P gf lb encs n₀ Bs S N w) (hn₀ : n₀ ≤ w.heap.size) (hBs : Bs < w.heap.size) (hps : ∀ x, (encs x).size = ps.size)
    (I : List α → World → Prop) (Ix : Code → List α → World → Prop) (A : List α → α → Act → World → Prop)
    (hI : Bears w.heap.size Bs I) (hIx : ∀ c, Bears w.heap.size Bs (Ix c)) (hA : ∀ pre x a1, Bears w.heap.size Bs (fun (_ : Unit) => A pre x a1)) (h0 : I [] w)
    (hassign : ∀ (l : Nat) (pre : List α) (x : α) (W : World), I pre W → w.heap.size + 2 ≤ W.heap.size →
      assign.wpIn (F.inRound l) (n - 1 - 1) P (Exit.then (fun a1 W1 => KeepsFrom w.heap.size W W1 ∧ KpB n₀ Bs W W1 ∧ A pre x a1 W1) (fun _ _ _ => False)) { tmps := (ps.zip (encs x)).foldl (fun t (p, v) => t.setIfInBounds p v) a.tmps, defers := [] } W)
    (hbody : ∀ (l : Nat) (pre : List α) (x : α) (a1 : Act) (W : World), A pre x a1 W → pre.length < N → body.wpIn (F.inRound l) (n - 1 - 1) P (RoundEnd w.heap.size n₀ Bs I Ix (pre ++ [x]) W) a1 W)
    (hdone : ∀ (D : Nat) (xs : List α) (W : World), w.heap.size ≤ D → S xs → I xs W → W.heap[D]? = some (.deferred (some [])) → Q .normal { a with defers := { target := .collected D, args := #[] } :: a.defers } W)
    (hstop : ∀ (D : Nat) (c : Code) (pre : List α) (W : World), w.heap.size ≤ D → (∃ t, S (pre ++ t)) → Ix c pre W → W.heap[D]? = some (.deferred (some [])) → c.wpIn F n P Q { a with defers := { target := .collected D, args := #[] } :: a.defers } W) :
    (Code.rangeFunc g ps assign body).wpIn F n P Q a w := by
  refine wpIn_rangeFunc (fun fn hfn => ?_)
  rw [hro]
  obtain ⟨rec, hrec⟩ : ∃ rec : LoopState → Option Code → Loop, rec = fun st pe => { state := st, pending := pe, fn, tmps := a.tmps, params := ps, assign, body, defers := w.heap.size } := ⟨_, rfl⟩
  obtain ⟨W1, hW1⟩ : ∃ W1, (w.alloc (.deferred (some []))).alloc (.loop (rec .ready none)) = W1 := ⟨_, rfl⟩
  have hsz1 : W1.heap.size = w.heap.size + 2 := by rw [← hW1]; simp
  have hL : W1.heap[w.heap.size + 1]? = some (.loop (rec .ready none)) := by
    rw [← hW1]; have := World.alloc_heap_new (w.alloc (.deferred (some []))) (.loop (rec .ready none)); rwa [World.size_alloc] at this
  have hD : W1.heap[w.heap.size]? = some (.deferred (some [])) := by
    rw [← hW1]; exact (Below.heap_alloc _ _ _ (by simp)).trans (World.alloc_heap_new w _)
  have hI1 : I [] W1 := by rw [← hW1]; exact hI.new _ (hI.new _ h0)
  have hB1 : Below w.heap.size w W1 := by rw [← hW1]; exact ((Below.refl _ w).alloc (Nat.le_refl _) _).alloc (by simp) _
  refine ⟨w.heap.size + 1, [{ target := .collected w.heap.size, args := #[] }], W1, { target := .fn (.func gf) lb, args := #[.func (.yield (w.heap.size + 1)) #[] #[]] }, W1, gf, #[.func (.yield (w.heap.size + 1)) #[] #[]] ++ lb, W1, ?_, ?_, ?_, ?_, fun _ => h1, ?_⟩
  · rw [← hW1, hrec]; exact run_enterLoop_outer _ _ _ _ _
  · simp only [resolve, hg]; simp [go_sem]
  · intro f' hf'; simp [Target.leads] at hf'; subst hf'; exact hFg
  · simp [invoke, go_sem, eg]
  have hne : ∀ {X Y : World} {row : Option Nat} {i : Nat} {o : Obj}, X.grownBy Y row → (row = none ∨ row = some Bs) → w.heap.size ≤ i → X.heap[i]? = some o → Y.heap[i]? = some o := fun hg hr hi ho =>
    (hg.block _ (lt_of_block ho) (by rcases hr with rfl | rfl <;> simp; omega)).trans ho
  have hbs : ∀ {X : World} {row : Option Nat}, (row = none ∨ row = some Bs) → ∀ r, row = some r → r = Bs ∨ (w.heap.size ≤ r ∧ ∃ o : Obj, X.heap[r]? = some o ∧ o.isCells = false) := fun hr r e => by
    rcases hr with rfl | rfl
    · cases e
    · exact .inl (by simpa using e.symm)
  refine (hseq (w.heap.size + 1)
    (fun pre W => (I pre W ∧ w.heap.size + 2 ≤ W.heap.size) ∧ W.heap[w.heap.size + 1]? = some (.loop (rec .ready none)) ∧ W.heap[w.heap.size]? = some (.deferred (some [])))
    (fun pre W => ∃ c, Ix c pre W ∧ W.heap[w.heap.size + 1]? = some (.loop (rec .done (some c))) ∧ W.heap[w.heap.size]? = some (.deferred (some [])))
    W1 hB1 (fun s X Y row hs hg' hr => ⟨⟨hI s X Y row hs.1.1 hg' (hbs hr), Nat.le_trans hs.1.2 hg'.size⟩, hne hg' hr (by omega) hs.2.1, hne hg' hr (Nat.le_refl _) hs.2.2⟩)
    (fun s X Y row ⟨c, hc, hl, hk⟩ hg' hr => ⟨c, hIx c s X Y row hc hg' (hbs hr), hne hg' hr (by omega) hl, hne hg' hr (Nat.le_refl _) hk⟩)
    ?_ ⟨⟨hI1, by omega⟩, hL, hD⟩).mono ?_
  · rintro pre x W ⟨⟨hi, hz⟩, hl, hk⟩ hlen
    have hy := run_yield (P := P) (args := encs x) hl (by rw [hrec]; exact hps x)
    rw [hrec] at hy
    refine ⟨fn, _, assign, body, hy, roundIn_of_wpIn hfn (wpIn_mono (hassign (w.heap.size + 1) pre x W hi hz) ?_)⟩
    intro e a1 Wa hp
    cases e with
    | normal =>
      obtain ⟨hka, hkpa, hia⟩ := hp
      have hla := hka.same _ _ (by omega) hl rfl
      have hda := hka.same _ _ (Nat.le_refl _) hk rfl
      have hlt : w.heap.size + 1 < Wa.heap.size := lt_of_block hla
      refine ⟨_, run_beginRound hla (by rw [hrec]), ?_⟩
      have hlb : (Wa.putObj (w.heap.size + 1) (.loop { rec .ready none with state := .busy })).heap[w.heap.size + 1]? = some (.loop { rec .ready none with state := .busy }) := World.putObj_heap_same hlt
      have hdb : (Wa.putObj (w.heap.size + 1) (.loop { rec .ready none with state := .busy })).heap[w.heap.size]? = some (.deferred (some [])) := (World.putObj_heap_other (by omega)).trans hda
      have hkb : KpB n₀ Bs Wa (Wa.putObj (w.heap.size + 1) (.loop { rec .ready none with state := .busy })) := KpB.b (w := w) hn₀ hBs _ _ _ _ (by omega) hla rfl rfl
      refine wpIn_mono (hbody _ pre x a1 _ ((hA pre x a1).put (s := ()) _ hia (by omega) hla rfl) hlen) ?_
      intro e2 a2 Wb hq
      have turn : ∀ (jump : Option Code), KeepsFrom w.heap.size (Wa.putObj (w.heap.size + 1) (.loop { rec .ready none with state := .busy })) Wb →
          Wb.heap[w.heap.size + 1]? = some (.loop { rec .ready none with state := .busy }) ∧
          (Instr.endRound (w.heap.size + 1) jump).run P Wb = .ok (.bool jump.isNone) (Wb.putObj (w.heap.size + 1) (.loop (rec (if jump.isNone then .ready else .done) jump))) ∧
          (Wb.putObj (w.heap.size + 1) (.loop (rec (if jump.isNone then .ready else .done) jump))).heap[w.heap.size + 1]? = some (.loop (rec (if jump.isNone then .ready else .done) jump)) ∧
          (Wb.putObj (w.heap.size + 1) (.loop (rec (if jump.isNone then .ready else .done) jump))).heap[w.heap.size]? = some (.deferred (some [])) := fun jump hkf => by
        have hlc := hkf.same _ _ (by omega) hlb rfl
        have hrun := run_endRound (P := P) jump hlc
        rw [hrec] at hrun hlc ⊢
        exact ⟨hlc, hrun, World.putObj_heap_same (lt_of_block hlc), (World.putObj_heap_other (by omega)).trans (hkf.same _ _ (Nat.le_refl _) hdb rfl)⟩
      cases e2 with
      | normal =>
        obtain ⟨hkf, hkp, hi2⟩ := hq
        obtain ⟨hlc, hrun, hl2, hd2⟩ := turn none hkf
        refine ⟨_, _, hrun, .inl ⟨rfl, ⟨⟨hI.put _ hi2 (by omega) hlc rfl, ?_⟩, hl2, hd2⟩, ?_⟩⟩
        · have := lt_of_block hl2; omega
        · exact ((hkpa.t hkb).t hkp).t (KpB.b (w := w) hn₀ hBs _ _ _ _ (by omega) hlc rfl rfl)
      | ret =>
        obtain ⟨hkf, hi2⟩ := hq
        obtain ⟨hlc, hrun, hl2, hd2⟩ := turn (some .ret) hkf
        exact ⟨_, _, hrun, .inr ⟨rfl, .ret, (hIx _).put _ hi2 (by omega) hlc rfl, hl2, hd2⟩⟩
      | _ => exact (hq : False).elim
    | _ => exact (hp : False).elim
  · rintro e W2 ⟨⟨v, rfl⟩, (⟨xs, hS, ⟨hi, _⟩, hl, hk⟩ | ⟨pre, hSp, c, hi, hl, hk⟩)⟩
    · exact ⟨none, _, by have := run_endLoop (P := P) hl (by rw [hrec]; simp); rw [hrec] at this; exact this, hdone _ xs _ (Nat.le_refl _) hS (hI.put _ hi (by omega) hl rfl) ((World.putObj_heap_other (by omega)).trans hk)⟩
    · exact ⟨some c, _, by have := run_endLoop (P := P) hl (by rw [hrec]; simp); rw [hrec] at this; exact this, hstop _ c pre _ (Nat.le_refl _) hSp ((hIx c).put _ hi (by omega) hl rfl) ((World.putObj_heap_other (by omega)).trans hk)⟩

end Go.Proofs.YtebeekjcepjcnaaGreatDoor
