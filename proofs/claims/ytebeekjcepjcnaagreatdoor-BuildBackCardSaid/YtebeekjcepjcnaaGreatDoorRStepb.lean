/-
  More steps of the walk of a region: an operation whose value has a known form.
  Facts compared by Go's '=='.
  Package build: Right.
-/
import Derived.Laws.StructEq
import Derived.Test.YtebeekjcepjcnaaGreatDoorRRerr
namespace Go.Proofs.YtebeekjcepjcnaaGreatDoor
open Go.RowKit

section
variable {P : Program} {ops : Array Oper} {Q : Exit → Act → World → Prop} {E : Nat → World → Prop} {S : List Nat} {G : World → World → Prop} {fr : List Nat} {FF : Nat → Value → World → Prop}
theorem Walk.weaken : ∀ (l : List Nat) (Fs Fs' : List (World → Prop)) (a : Act), (∀ W, Facts' Fs W → Facts' Fs' W) → Walk P ops Q E S G fr FF Fs' l a → Walk P ops Q E S G fr FF Fs l a
  | [], _, _, _, hs, h => fun W hE hF => h W hE (hs W hF)
  | k :: l, Fs, Fs', a, hs, h => by
    obtain ⟨o, ho, ⟨x, h0, h1, h2⟩ | ⟨F, hFF, h1, h2, h3, h4⟩⟩ := h
    · exact ⟨o, ho, .inl ⟨x, h0, fun c W hc hE hF => h1 c W hc hE (hs W hF), Walk.weaken l _ _ _ hs h2⟩⟩
    · refine ⟨o, ho, .inr ⟨F, hFF, h1, h2, fun c W hc hE hF => h3 c W hc hE (hs W hF), fun u => Walk.weaken l _ _ _ (fun W hF f hf => ?_) (h4 u)⟩⟩
      rcases List.mem_cons.1 hf with rfl | hf
      · exact hF.head
      · exact hs W hF.tail f hf
theorem wpList_mono_then {o : Oper} {a : Act} {w : World} {K K' : Act → World → Prop} (h : ∀ a w, K a w → K' a w) (hh : wpList P ops (Exit.then K NoQ) [o] a w) : wpList P ops (Exit.then K' NoQ) [o] a w := by
  simp only [wpList] at hh ⊢
  by_cases hw : Region.wanted o (yielded ops a.tmps) = true
  · simp only [hw, if_true] at hh ⊢
    rcases hh with hh | ⟨_, a', w', hx⟩
    · refine .inl ?_
      unfold Oper.wp at hh ⊢
      generalize (execOp a.eval o).run P w = r at *
      cases r with
      | ok n w' =>
        cases n <;> simp only [Oper.upon] at hh ⊢
        case value u => exact h _ _ hh
        case skip => exact h _ _ hh
        case defer d => exact h _ _ hh
        case row r args => exact Rows.mono hh fun _ _ he => h _ _ he
        case enter f args =>
          refine Calls.mono hh fun e w'' he => ?_
          cases e with
          | returned u => exact h _ _ he
          | panicked c => exact (he : False).elim
          | outgrown => obtain ⟨_, _, hx⟩ := he; exact (hx : False).elim
      | halt x w' =>
        cases x <;> simp only [Oper.upon] at hh ⊢
        exact (hh : False).elim
    · exact (hx : False).elim
  · simp only [hw] at hh ⊢
    exact h _ _ hh
def plainRest (ops : Array Oper) (fr l : List Nat) : Bool := l.all fun k => !fr.contains k && (ops[k]?).isSome
theorem Walk.vac {Fs : List (World → Prop)} (h : ∀ W, ¬ Facts' Fs W) : ∀ (l : List Nat) (a : Act), plainRest ops fr l = true → Walk P ops Q E S G fr FF Fs l a
  | [], _, _ => fun W _ hF => (h W hF).elim
  | k :: l, a, hl => by
    simp only [plainRest, List.all_cons, Bool.and_eq_true, Bool.not_eq_true'] at hl
    obtain ⟨o, ho⟩ := Option.isSome_iff_exists.1 hl.1.2
    exact ⟨o, ho, .inl ⟨undef, hl.1.1, fun c W _ _ hF => (h W hF).elim, Walk.vac h l _ hl.2⟩⟩
def AnyOf {α : Type} (a : Act) (d : Option Tmp) (form : α → Value) (F : α → World → Prop) (H : World → Prop) (a' : Act) (W' : World) : Prop := ∃ x, a' = a.put d (form x) ∧ F x W' ∧ H W'
variable {Fs : List (World → Prop)} {k : Nat} {o : Oper} {rest : List Nat} {a a' : Act} {x : Value}
theorem ops_at (h : ops.toList[k]? = some o) : ops[k]? = some o := by simpa using h
theorem Walk.one (ho : ops.toList[k]? = some o) (hs : S.contains k = false) (hf : fr.contains k = false)
    (hrun : ∀ c W, E c W → Facts' Fs W → wpList P ops (Exit.then (TextPost a' fun W' => G W W' ∧ E c W') NoQ) [o] a W) (hv : a' = a.put o.dst x) (hrest : Walk P ops Q E S G fr FF Fs rest a') : Walk P ops Q E S G fr FF Fs (k :: rest) a :=
  Walk.det (ops_at ho) hs hf hrun hv hrest
theorem Walk.keep (n : Nat) (ho : ops.toList[k]? = some o) (hs : S.contains k = true) (hn : S.idxOf k = n) (hf : fr.contains k = false)
    (hrun : ∀ W, E n W → Facts' Fs W → wpList P ops (Exit.then (TextPost a' fun W' => G W W' ∧ E (n + 1) W') NoQ) [o] a W) (hv : a' = a.put o.dst undef) (hrest : Walk P ops Q E S G fr FF Fs rest a') : Walk P ops Q E S G fr FF Fs (k :: rest) a :=
  Walk.store n (ops_at ho) hs hn hf hrun hv hrest
theorem Walk.freeOp (hF : ∀ u W W', FF k u W → G W W' → FF k u W') (ho : ops.toList[k]? = some o) (hs : S.contains k = false) (hw : waitAll ops fr [k] rest = true)
    (hrun : ∀ a c W, E c W → wpList P ops (Exit.then (AnyPost a o.dst (FF k) fun W' => G W W' ∧ E c W') NoQ) [o] a W) (hrest : ∀ u, Walk P ops Q E S G fr FF (FF k u :: Fs) rest (a.put o.dst u)) : Walk P ops Q E S G fr FF Fs (k :: rest) a :=
  Walk.free hF (ops_at ho) hs hw hrun hrest
theorem Walk.whatever (F : Value → World → Prop) (hF : ∀ u W W', F u W → G W W' → F u W') (ho : ops.toList[k]? = some o) (hs : S.contains k = false) (hf : fr.contains k = false) (hw : waitAll ops fr [k] rest = true)
    (hrun : ∀ c W, E c W → Facts' Fs W → wpList P ops (Exit.then (AnyPost a o.dst F fun W' => G W W' ∧ E c W') NoQ) [o] a W) (hrest : ∀ u, Walk P ops Q E S G fr FF (F u :: Fs) rest (a.put o.dst u)) : Walk P ops Q E S G fr FF Fs (k :: rest) a :=
  Walk.any F hF (ops_at ho) hs hf hw hrun hrest
/-- An operation whose value has this form. -/
theorem Walk.anyOf {α : Type} (form : α → Value) (hinj : ∀ x y, form x = form y → x = y) (F : α → World → Prop) (hF : ∀ x W W', F x W → G W W' → F x W') (ho : ops.toList[k]? = some o) (hs : S.contains k = false) (hf : fr.contains k = false) (hw : waitAll ops fr [k] rest = true) (hp : plainRest ops fr rest = true)
    (hrun : ∀ c W, E c W → Facts' Fs W → wpList P ops (Exit.then (AnyOf a o.dst form F fun W' => G W W' ∧ E c W') NoQ) [o] a W) (hrest : ∀ x, Walk P ops Q E S G fr FF (F x :: Fs) rest (a.put o.dst (form x))) : Walk P ops Q E S G fr FF Fs (k :: rest) a := by
  refine Walk.any (fun u W => ∃ x, u = form x ∧ F x W) (fun u W W' ⟨x, e, h⟩ hG => ⟨x, e, hF x W W' h hG⟩) (ops_at ho) hs hf hw (fun c W hE hFs => ?_) (fun u => ?_)
  · refine wpList_mono_then ?_ (hrun c W hE hFs)
    rintro a' W' ⟨x, e, h, hH⟩
    exact ⟨form x, e, ⟨x, rfl, h⟩, hH⟩
  · by_cases hu : ∃ x, u = form x
    · obtain ⟨x, rfl⟩ := hu
      refine Walk.weaken rest _ _ _ (fun W hF f hf => ?_) (hrest x)
      rcases List.mem_cons.1 hf with rfl | hf
      · obtain ⟨y, e, h⟩ := hF.head
        rw [hinj x y e]; exact h
      · exact hF.tail f hf
    · exact Walk.vac (fun W hF => by obtain ⟨x, e, _⟩ := hF.head; exact hu ⟨x, e⟩) rest _ hp
end

end Go.Proofs.YtebeekjcepjcnaaGreatDoor
namespace Go.Proofs.YtebeekjcepjcnaaGreatDoor
open Go.RowKit

def EqOk (P : Program) (W : World) (d : Nat) (xs ys : Array Value) : List Field → List Bool → Prop
  | [], [] => True
  | f :: fs, r :: rs => (f.name ≠ "_" ∧ ∃ a b, (part f.type xs f.offset).run P W = .ok a W ∧ (part f.type ys f.offset).run P W = .ok b W ∧ (Op.equalIn d f.type a b).run P W = .ok r W) ∧ EqOk P W d xs ys fs rs
  | _, _ => False
theorem eqFields_all {P : Program} {W : World} {d : Nat} {xs ys : Array Value} : ∀ (fs : List Field) (rs : List Bool), EqOk P W d xs ys fs rs → (Op.eqFields d xs ys fs).run P W = .ok (rs.all id) W
  | [], [], _ => by simp [Op.eqFields]
  | f :: fs, r :: rs, ⟨⟨h1, a, b, h2, h3, h4⟩, h5⟩ => by
    simp only [Op.eqFields, h1, ne_eq, not_false_eq_true, if_true, Sem.run_bind, h2, h3, h4, Result.andThen_ok]
    cases r
    · simp
    · simpa using eqFields_all fs rs h5
  | [], _ :: _, h => h.elim
  | _ :: _, [], h => h.elim

def Key.eqB (k l : Key) : Bool := [k.proto == l.proto, k.src == l.src, k.dst == l.dst, k.sp == l.sp, k.dp == l.dp].all id
theorem Key.eqB_iff {k l : Key} : k.eqB l = true ↔ k = l := by
  obtain ⟨a, b, c, d, e⟩ := k
  obtain ⟨a', b', c', d', e'⟩ := l
  simp [Key.eqB]
theorem equalIn_key (d : Nat) (k l : Key) (W : World) : (Op.equalIn (d + 2) 39 k.val l.val).run Tryz.prog W = .ok (k.eqB l) W := by
  unfold Key.val
  rw [run_equalIn_struct W (d + 1) 39 _ _ (by kernel_rfl) (by kernel_rfl)]
  have hf : (Tryz.prog.fieldsOf 39).toList = (Tryz.prog.fieldsOf 39).toList := rfl
  refine eqFields_all _ _ ?_
  simp only [Program.fieldsOf, Tryz.underlying39]
  exact ⟨⟨by decide, .int .u8 k.proto, .int .u8 l.proto, by kernel_rfl, by kernel_rfl, run_equalIn_int _ _ _ _ _ _ _ Tryz.underlying5⟩, ⟨by decide, .int .u32 k.src, .int .u32 l.src, by kernel_rfl, by kernel_rfl, run_equalIn_int _ _ _ _ _ _ _ Tryz.underlying23⟩, ⟨by decide, .int .u32 k.dst, .int .u32 l.dst, by kernel_rfl, by kernel_rfl, run_equalIn_int _ _ _ _ _ _ _ Tryz.underlying23⟩,
    ⟨by decide, .int .u16 k.sp, .int .u16 l.sp, by kernel_rfl, by kernel_rfl, run_equalIn_int _ _ _ _ _ _ _ Tryz.underlying22⟩, ⟨by decide, .int .u16 k.dp, .int .u16 l.dp, by kernel_rfl, by kernel_rfl, run_equalIn_int _ _ _ _ _ _ _ Tryz.underlying22⟩, trivial⟩

def Facts.eqB (f g : Facts) : Bool := [f.key.eqB g.key, f.kind == g.kind, f.flags == g.flags, f.type == g.type, f.code == g.code, f.seqn == g.seqn, f.ackn == g.ackn, f.window == g.window, f.length == g.length, f.quoted.eqB g.quoted, f.qkind == g.qkind].all id
theorem Facts.eqB_iff {f g : Facts} : f.eqB g = true ↔ f = g := by
  obtain ⟨a, b, c, d, e, f1, g1, h, i, j, k⟩ := f
  obtain ⟨a', b', c', d', e', f1', g1', h', i', j', k'⟩ := g
  simp [Facts.eqB, Key.eqB_iff]
set_option maxRecDepth 100000 in
theorem run_eq_facts (f g : Facts) (W : World) : (binOp .eql 41 f.val g.val).run Tryz.prog W = .ok (.bool (f.eqB g)) W := by
  unfold Facts.val
  rw [run_eql_struct, run_equalIn_struct W 9999 41 _ _ (by kernel_rfl) (by kernel_rfl)]
  have h : EqOk Tryz.prog W 9999 f.cells.toArray g.cells.toArray (Tryz.prog.fieldsOf 41).toList [f.key.eqB g.key, f.kind == g.kind, f.flags == g.flags, f.type == g.type, f.code == g.code, f.seqn == g.seqn, f.ackn == g.ackn, f.window == g.window, f.length == g.length, f.quoted.eqB g.quoted, f.qkind == g.qkind] := by
    simp only [Program.fieldsOf, Tryz.underlying41]
    exact ⟨⟨by decide, f.key.val, g.key.val, by kernel_rfl, by kernel_rfl, equalIn_key 9997 _ _ _⟩, ⟨by decide, .int .u8 f.kind, .int .u8 g.kind, by kernel_rfl, by kernel_rfl, run_equalIn_int _ _ _ _ _ _ _ Tryz.underlying5⟩, ⟨by decide, .int .u8 f.flags, .int .u8 g.flags, by kernel_rfl, by kernel_rfl, run_equalIn_int _ _ _ _ _ _ _ Tryz.underlying5⟩,
      ⟨by decide, .int .u8 f.type, .int .u8 g.type, by kernel_rfl, by kernel_rfl, run_equalIn_int _ _ _ _ _ _ _ Tryz.underlying5⟩, ⟨by decide, .int .u8 f.code, .int .u8 g.code, by kernel_rfl, by kernel_rfl, run_equalIn_int _ _ _ _ _ _ _ Tryz.underlying5⟩, ⟨by decide, .int .u32 f.seqn, .int .u32 g.seqn, by kernel_rfl, by kernel_rfl, run_equalIn_int _ _ _ _ _ _ _ Tryz.underlying23⟩,
      ⟨by decide, .int .u32 f.ackn, .int .u32 g.ackn, by kernel_rfl, by kernel_rfl, run_equalIn_int _ _ _ _ _ _ _ Tryz.underlying23⟩, ⟨by decide, .int .i64 f.window, .int .i64 g.window, by kernel_rfl, by kernel_rfl, run_equalIn_int _ _ _ _ _ _ _ Tryz.underlying3⟩, ⟨by decide, .int .i64 f.length, .int .i64 g.length, by kernel_rfl, by kernel_rfl, run_equalIn_int _ _ _ _ _ _ _ Tryz.underlying3⟩,
      ⟨by decide, f.quoted.val, g.quoted.val, by kernel_rfl, by kernel_rfl, equalIn_key 9997 _ _ _⟩, ⟨by decide, .int .u8 f.qkind, .int .u8 g.qkind, by kernel_rfl, by kernel_rfl, run_equalIn_int _ _ _ _ _ _ _ Tryz.underlying5⟩, trivial⟩
  rw [eqFields_all _ _ h]
  rfl

end Go.Proofs.YtebeekjcepjcnaaGreatDoor
namespace Go.Proofs.YtebeekjcepjcnaaGreatDoor
open Go.RowKit

theorem wpList_load_g {P : Program} {ops : Array Oper} {rest : List Oper} {o : Oper} {a : Act} {w : World} {Q : Exit → Act → World → Prop} (hw : Region.wanted o (yielded ops a.tmps) = true) (ty : TypeId) (x : Operand) (ho : o.op = .load ty x)
    (g : Nat) (hx : a.eval x = .pointer (some ⟨g, 0, none⟩)) (t : TypeId) (cs : Array Value) (fr : Nat × Nat) (d : TypeDesc) (hg : w.heap[g]? = some (.cells cs t fr))
    (hu : P.underlying ty = some d) (hd : (match d with | .struct _ | .array _ _ => true | _ => false) = true) (hi : (P.info? ty).map (·.size) = some cs.size)
    (h : wpList P ops Q rest (a.put o.dst (.agg cs)) w) : wpList P ops Q (o :: rest) a w := by
  rw [wpList, if_pos hw]
  exact .inl (wp_load_row ty x ho g hx t cs fr d hg hu hd hi h)
def Facts.fPart (f : Facts) : Facts := if f.kind = 1 then f.tcpPart else if f.kind = 2 then f.udpPart else if f.kind = 5 then f.errorPart else f.queryPart
def Facts.fRight (f : Facts) : Bool := if f.kind = 1 then f.rightTCP else if f.kind = 2 then f.rightUDP else if f.kind = 5 then f.rightError else f.rightQuery
theorem fields_any (f : Facts) (w : World) (ho : f.Ok) (hs : SortsAt w) : Calls Tryz.prog (fieldsS f.kind) #[f.val] w fun e w' => e = .returned (.tuple #[f.fPart.val, .bool f.fRight]) ∧ Below w.heap.size w w' := by
  unfold Facts.fPart Facts.fRight fieldsS
  by_cases h1 : f.kind = 1
  · rw [if_pos h1, if_pos h1, if_pos h1]; exact rightTCP_any f w ho.flags0 ho.flags1
  · rw [if_neg h1, if_neg h1, if_neg h1]
    by_cases h2 : f.kind = 2
    · rw [if_pos h2, if_pos h2, if_pos h2]; exact rightUDP_any f w
    · rw [if_neg h2, if_neg h2, if_neg h2]
      by_cases h5 : f.kind = 5
      · rw [if_pos h5, if_pos h5, if_pos h5]; exact rightError_any f w hs ho.type0 ho.type1 ho.code0
      · rw [if_neg h5, if_neg h5, if_neg h5]; exact rightQuery_any f w hs ho.type0 ho.type1 ho.code0
theorem callFunc_s (k : Int) (args : Array Value) (W : World) : (callFunc (fieldsS k) args).run Tryz.prog W = .ok (.enter (fieldsS k) args) W := by
  unfold fieldsS
  split
  · kernel_rfl
  · split
    · kernel_rfl
    · split <;> kernel_rfl

def Facts.right (f : Facts) : Bool := decide (1 ≤ f.kind) && decide (f.kind ≤ 5) && (f.key.proto == protoS f.kind) && usualB f.key.src && usualB f.key.dst && !(f.key.src == f.key.dst) && f.fRight && f.fPart.eqB f

set_option maxRecDepth 100000 in
set_option maxHeartbeats 2000000 in
theorem right_other (f : Facts) (w : World) (hk : ¬ (1 ≤ f.kind ∧ f.kind ≤ 5)) :
    Calls Tryz.prog 10 #[f.val] w fun e w' => e = .returned (.bool false) ∧ Below w.heap.size w w' := by
  obtain ⟨⟨k0, k1, k2, k3, k4⟩, kind, flags, type, code, seqn, ackn, window, length, ⟨q0, q1, q2, q3, q4⟩, qkind⟩ := f
  have Hlk := Lib.hid (fun (W : World) (m : Nat) (h : SortsM W m) => lookup_sorts_none W m h kind hk true)
  clear hk
  unfold noSort at Hlk
  dsimp only [Facts.val, Facts.cells, Key.cells, List.cons_append, List.nil_append]
  go_enter Tryz.func10, Tryz.ntmps10
  go_wp2_with fail
  refine wp_name1 ?_
  intro w1 hb1 hs1 b0
  have hSt := (St.nil hb1 hb1.size).cons b0
  refine wp_region_walk (by kernel_rfl) (fun _ W => St w w.heap.size _ W) [] (Late w.heap.size 77 #[.int .u8 0, .nilFunc, .nilFunc] #[.int .u8 0, .nilFunc, .nilFunc])
    [7] (fun _ => LateB (w.heap.size + 1) 77 #[.int .u8 0, .nilFunc, .nilFunc] #[.int .u8 0, .nilFunc, .nilFunc]) [1, 2, 0, 3, 4, 5, 6, 7, 8, 9] (by kernel_rfl) ?hfree hSt.drew ?hwalk
  case hfree =>
    intro k hk
    obtain rfl : k = 7 := by simpa using hk
    refine ⟨rfl, LateB.keep, fun o ho a c W hE => ?_⟩
    simp at ho
    subst ho
    go_wp2_with fail
    have hl := (hE.get 0 rfl).lt
    exact ⟨_, rfl, ⟨W.heap.size, rfl, hl, .inl (Blk.new _ _ _)⟩, Late.grown ((Below.refl _ _).alloc (Nat.le_refl _) _) hE.2.1, hE.alloc _⟩
  iterate 2
    apply Walk.one rfl rfl rfl
    case hrun =>
      intro c W hE hF
      have hc2 := (hE.get 0 rfl).cell
      go_wp2_with fail
      exact TextPost.mk ⟨Late.refl _, hE⟩
    case hv => rfl
  refine Walk.whatever (fun u W => ∃ m, u = .map (some m) ∧ SortsM W m) ?_ rfl rfl rfl (by kernel_rfl) ?_ (fun u0 => ?_)
  · rintro u W W' ⟨m, e, hm⟩ hG
    exact ⟨m, e, hG.keep m _ hm (by simp)⟩
  · intro c W hE hF
    go_wp2_with fail
    refine (sorts_any _).mono ?_
    rintro e W2 ⟨m, rfl, hm0, hm, l⟩
    go_wp2_with fail
    exact ⟨_, rfl, ⟨m, rfl, hm⟩, Late.grown l hE.2.1, hE.below l⟩
  dsimp only [Act.put]
  simp only [List.setIfInBounds_toArray, List.set_cons_succ, List.set_cons_zero]
  apply Walk.one rfl rfl rfl
  case hrun =>
    intro c W hE hF
    have hlk : (Instr.lookup 78 u0 (.int .u8 kind) true).run Tryz.prog W = .ok (.tuple #[.agg #[.int .u8 0, .nilFunc, .nilFunc], .bool false]) W := by
      obtain ⟨m, rfl, hm⟩ := hF.head
      exact Hlk.out W m hm
    go_wp2_with fail
    exact TextPost.mk ⟨Late.refl _, hE⟩
  case hv => rfl
  iterate 3
    apply Walk.one rfl rfl rfl
    case hrun =>
      intro c W hE hF
      go_wp2_with fail
      exact TextPost.mk ⟨Late.refl _, hE⟩
    case hv => rfl
  refine Walk.freeOp LateB.keep rfl rfl (by kernel_rfl) ?_ (fun u8 => ?_)
  · intro a c W hE
    go_wp2_with fail
    have hl := (hE.get 0 rfl).lt
    exact ⟨_, rfl, ⟨W.heap.size, rfl, hl, .inl (Blk.new _ _ _)⟩, Late.grown ((Below.refl _ _).alloc (Nat.le_refl _) _) hE.2.1, hE.alloc _⟩
  dsimp only [Act.put]
  simp only [List.setIfInBounds_toArray, List.set_cons_succ, List.set_cons_zero]
  refine Walk.whatever (fun _ W => LateN (w.heap.size + 1) 77 #[.int .u8 0, .nilFunc, .nilFunc] u8 W) ?_ rfl rfl rfl (by kernel_rfl) ?_ (fun u9 => ?_)
  · exact fun _ => LateN.keep u8
  · intro c W hE hF
    obtain ⟨g, rfl, hg0, hg | hg⟩ := hF.head
    all_goals
      refine wpList_store_row rfl _ _ _ rfl g #[.int .u8 0, .nilFunc, .nilFunc] rfl rfl _ _ hg (by kernel_rfl) (by simp) (by simp [Value.oneCell']) ?_
      go_wp2_with fail
      refine ⟨undef, rfl, ⟨g, rfl, hg0, setRow_heap _ _ _ _ _ _ hg⟩, ?_, hE.rowFar (by omega) (by simp; omega) _⟩
    · exact Late.store hg (by omega)
    · exact Late.again hg (by omega)
  dsimp only [Act.put]
  apply Walk.one rfl rfl rfl
  case hrun =>
    intro c W hE hF
    go_wp2_with fail
    exact TextPost.mk ⟨Late.refl _, hE⟩
  case hv => rfl
  refine Walk.done (fun W hE hF => ?_)
  obtain ⟨g, rfl, hg0, hg⟩ := hF.head
  have hbW := hE.1
  clear hSt hE hF
  go_wp2_with fail
  go_ret
  exact ⟨rfl, hbW⟩

set_option maxRecDepth 100000 in
set_option maxHeartbeats 4000000 in
theorem right_in (f : Facts) (w : World) (ho : f.Ok) (hs : SortsAt w) (hk0 : 1 ≤ f.kind) (hk1 : f.kind ≤ 5) :
    Calls Tryz.prog 10 #[f.val] w fun e w' => e = .returned (.bool f.right) ∧ Below w.heap.size w w' := by
  have HF := Lib.hid (fun W h => fields_any f W ho h)
  have HE := Lib.hid (fun W => run_eq_facts f.fPart f W)
  obtain ⟨C, hC, hCs, hC1⟩ := val_cells f.fPart
  rw [hC] at HF HE
  have HCs := Lib.hid hCs
  have HC1 := Lib.hid hC1
  have Hs := Lib.hid hs
  have Hlk := Lib.hid (fun (W : World) (m : Nat) (h : SortsM W m) => lookup_sorts W m h f.kind hk0 hk1 true)
  have hcf := callFunc_s f.kind
  obtain ⟨c1, h1⟩ : ∃ c, (f.key.proto != protoS f.kind) = c := ⟨_, rfl⟩
  obtain ⟨c2, h2⟩ : ∃ c, usualB f.key.src = c := ⟨_, rfl⟩
  obtain ⟨c3, h3⟩ : ∃ c, usualB f.key.dst = c := ⟨_, rfl⟩
  obtain ⟨c4, h4⟩ : ∃ c, (f.key.src == f.key.dst) = c := ⟨_, rfl⟩
  have Hr := Lib.hid (show f.right = (!c1 && c2 && c3 && !c4 && f.fRight && f.fPart.eqB f) by
    have e1 : (f.key.proto == protoS f.kind) = !c1 := by rw [← h1]; simp [bne]
    have e0 : decide (1 ≤ f.kind) = true := by simpa using hk0
    have e00 : decide (f.kind ≤ 5) = true := by simpa using hk1
    unfold Facts.right; rw [e0, e00, e1, h2, h3, h4]; rfl)
  clear ho hs hk0 hk1 hC hCs hC1
  generalize f.right = RR at *
  generalize f.fRight = c5 at *
  generalize f.fPart.eqB f = c6 at *
  unfold sortV at Hlk
  generalize protoS f.kind = pr at *
  generalize fieldsS f.kind = fn at *
  generalize dataS f.kind = dn at *
  obtain ⟨⟨k0, k1, k2, k3, k4⟩, kind, flags, type, code, seqn, ackn, window, length, ⟨q0, q1, q2, q3, q4⟩, qkind⟩ := f
  dsimp only [Facts.val, Facts.cells, Key.cells, List.cons_append, List.nil_append]
  dsimp only [Facts.val, Facts.cells, Key.cells, List.cons_append, List.nil_append] at HF
  dsimp only [Facts.val, Facts.cells, Key.cells, List.cons_append, List.nil_append] at HE
  try dsimp only at Hlk
  try dsimp only at h1
  try dsimp only at h2
  try dsimp only at h3
  try dsimp only at h4
  go_enter Tryz.func10, Tryz.ntmps10
  go_wp2_with fail
  refine wp_name1 ?_
  intro w1 hb1 hs1 b0
  have hSt := (St.nil hb1 hb1.size).cons b0
  refine wp_region_walk (by kernel_rfl) (fun _ W => St w w.heap.size _ W) [] (Late w.heap.size 77 #[.int .u8 0, .nilFunc, .nilFunc] #[.int .u8 pr, .func (.func fn) #[] #[], .func (.func dn) #[] #[]])
    [7] (fun _ => LateB (w.heap.size + 1) 77 #[.int .u8 0, .nilFunc, .nilFunc] #[.int .u8 pr, .func (.func fn) #[] #[], .func (.func dn) #[] #[]]) [1, 2, 0, 3, 4, 5, 6, 7, 8, 9] (by kernel_rfl) ?hfree hSt.drew ?hwalk
  case hfree =>
    intro k hk
    obtain rfl : k = 7 := by simpa using hk
    refine ⟨rfl, LateB.keep, fun o ho a c W hE => ?_⟩
    simp at ho
    subst ho
    go_wp2_with fail
    have hl := (hE.get 0 rfl).lt
    exact ⟨_, rfl, ⟨W.heap.size, rfl, hl, .inl (Blk.new _ _ _)⟩, Late.grown ((Below.refl _ _).alloc (Nat.le_refl _) _) hE.2.1, hE.alloc _⟩
  iterate 2
    apply Walk.one rfl rfl rfl
    case hrun =>
      intro c W hE hF
      have hc2 := (hE.get 0 rfl).cell
      go_wp2_with fail
      exact TextPost.mk ⟨Late.refl _, hE⟩
    case hv => rfl
  refine Walk.whatever (fun u W => ∃ m, u = .map (some m) ∧ SortsM W m) ?_ rfl rfl rfl (by kernel_rfl) ?_ (fun u0 => ?_)
  · rintro u W W' ⟨m, e, hm⟩ hG
    exact ⟨m, e, hG.keep m _ hm (by simp)⟩
  · intro c W hE hF
    go_wp2_with fail
    refine (sorts_any _).mono ?_
    rintro e W2 ⟨m, rfl, hm0, hm, l⟩
    go_wp2_with fail
    exact ⟨_, rfl, ⟨m, rfl, hm⟩, Late.grown l hE.2.1, hE.below l⟩
  dsimp only [Act.put]
  simp only [List.setIfInBounds_toArray, List.set_cons_succ, List.set_cons_zero]
  apply Walk.one rfl rfl rfl
  case hrun =>
    intro c W hE hF
    have hlk : (Instr.lookup 78 u0 (.int .u8 kind) true).run Tryz.prog W = .ok (.tuple #[.agg #[.int .u8 pr, .func (.func fn) #[] #[], .func (.func dn) #[] #[]], .bool true]) W := by
      obtain ⟨m, rfl, hm⟩ := hF.head
      exact Hlk.out W m hm
    go_wp2_with fail
    exact TextPost.mk ⟨Late.refl _, hE⟩
  case hv => rfl
  iterate 3
    apply Walk.one rfl rfl rfl
    case hrun =>
      intro c W hE hF
      go_wp2_with fail
      exact TextPost.mk ⟨Late.refl _, hE⟩
    case hv => rfl
  refine Walk.freeOp LateB.keep rfl rfl (by kernel_rfl) ?_ (fun u8 => ?_)
  · intro a c W hE
    go_wp2_with fail
    have hl := (hE.get 0 rfl).lt
    exact ⟨_, rfl, ⟨W.heap.size, rfl, hl, .inl (Blk.new _ _ _)⟩, Late.grown ((Below.refl _ _).alloc (Nat.le_refl _) _) hE.2.1, hE.alloc _⟩
  dsimp only [Act.put]
  simp only [List.setIfInBounds_toArray, List.set_cons_succ, List.set_cons_zero]
  refine Walk.whatever (fun _ W => LateN (w.heap.size + 1) 77 #[.int .u8 pr, .func (.func fn) #[] #[], .func (.func dn) #[] #[]] u8 W) ?_ rfl rfl rfl (by kernel_rfl) ?_ (fun u9 => ?_)
  · exact fun _ => LateN.keep u8
  · intro c W hE hF
    obtain ⟨g, rfl, hg0, hg | hg⟩ := hF.head
    all_goals
      refine wpList_store_row rfl _ _ _ rfl g #[.int .u8 pr, .func (.func fn) #[] #[], .func (.func dn) #[] #[]] rfl rfl _ _ hg (by kernel_rfl) (by simp) (by simp [Value.oneCell']) ?_
      go_wp2_with fail
      refine ⟨undef, rfl, ⟨g, rfl, hg0, setRow_heap _ _ _ _ _ _ hg⟩, ?_, hE.rowFar (by omega) (by simp; omega) _⟩
    · exact Late.store hg (by omega)
    · exact Late.again hg (by omega)
  dsimp only [Act.put]
  apply Walk.one rfl rfl rfl
  case hrun =>
    intro c W hE hF
    go_wp2_with fail
    exact TextPost.mk ⟨Late.refl _, hE⟩
  case hv => rfl
  refine Walk.done (fun W hE hF => ?_)
  obtain ⟨g, rfl, hg0, hg⟩ := hF.head
  cases c1
  rotate_left
  · have hc0 := (hE.get 0 rfl).cell
    have hcg := hg.cell
    have hbW := hE.1
    clear hSt hE hF
    go_wp2_with (go_at_call 29; refine (usual_any _ _).mono ?_; rintro e wz ⟨rfl, rfl⟩)
    go_ret
    exact ⟨by rw [Hr.out]; rfl, hbW⟩
  cases c2
  · have hc0 := (hE.get 0 rfl).cell
    have hcg := hg.cell
    have hbW := hE.1
    clear hSt hE hF
    go_wp2_with (go_at_call 29; refine (usual_any _ _).mono ?_; rintro e wz ⟨rfl, rfl⟩)
    go_ret
    exact ⟨by rw [Hr.out]; rfl, hbW⟩
  cases c3
  · have hc0 := (hE.get 0 rfl).cell
    have hcg := hg.cell
    have hbW := hE.1
    clear hSt hE hF
    go_wp2_with (go_at_call 29; refine (usual_any _ _).mono ?_; rintro e wz ⟨rfl, rfl⟩)
    go_ret
    exact ⟨by rw [Hr.out]; rfl, hbW⟩
  cases c4
  rotate_left
  · have hc0 := (hE.get 0 rfl).cell
    have hcg := hg.cell
    have hbW := hE.1
    clear hSt hE hF
    go_wp2_with (go_at_call 29; refine (usual_any _ _).mono ?_; rintro e wz ⟨rfl, rfl⟩)
    go_ret
    exact ⟨by rw [Hr.out]; rfl, hbW⟩
  have b0' := hE.get 0 rfl
  have hc0 := b0'.cell
  have hcg := hg.cell
  have hbW := hE.1
  have Hs2 := Lib.hid (Hs.out.below hbW (Nat.le_refl _))
  clear hSt hE hF
  have heq := HE.out
  go_upto_region 5 with (first | ((with_reducible refine look_load ?_); refine wpList_load_row rfl _ _ rfl _ rfl _ _ _ _ b0' Tryz.underlying41 rfl (by kernel_rfl) ?_) | ((with_reducible refine look_store ?_); refine wpList_store_new rfl _ _ _ rfl _ C rfl rfl _ _ rfl (by rw [HCs.out]; kernel_rfl) (by rw [HCs.out]; rfl) HC1.out ?_) | (go_at_call 29; refine (usual_any _ _).mono ?_; rintro e wz ⟨rfl, rfl⟩) | ((with_reducible refine (HF.out _ Hs2.out).mono ?_); rintro e w5 ⟨rfl, l5⟩) | fail)
  clear hc0 hcg
  refine wp_name1 ?_
  intro w6 hb7 hs7 bC
  have b0 := (b0'.below l5 b0'.lt).below hb7 (Nat.lt_of_lt_of_le b0'.lt l5.size)
  have hb8 := (hbW.trans (l5.mono hbW.size)).trans (hb7.mono (Nat.le_trans hbW.size l5.size))
  cases c5
  · go_wp2_with fail
    go_ret
    exact ⟨by rw [Hr.out]; rfl, hb8⟩
  · go_wp2_with (first | ((with_reducible refine look_load ?_); refine wpList_load_g rfl _ _ rfl _ rfl _ _ _ _ b0 Tryz.underlying41 rfl (by kernel_rfl) ?_) | ((with_reducible refine look_load ?_); refine wpList_load_g rfl _ _ rfl _ rfl _ C _ _ bC Tryz.underlying41 rfl (by rw [HCs.out]; kernel_rfl) ?_) | fail)
    go_ret
    exact ⟨by rw [Hr.out]; rfl, hb8⟩

theorem right_all (f : Facts) (w : World) (ho : f.Ok) (hs : SortsAt w) : Calls Tryz.prog 10 #[f.val] w fun e w' => e = .returned (.bool f.right) ∧ Below w.heap.size w w' := by
  by_cases hk : 1 ≤ f.kind ∧ f.kind ≤ 5
  · exact right_in f w ho hs hk.1 hk.2
  · have hr : f.right = false := by
      unfold Facts.right
      by_cases h1 : 1 ≤ f.kind
      · have h2 : decide (f.kind ≤ 5) = false := by simp; omega
        rw [h2]; simp
      · have h2 : decide (1 ≤ f.kind) = false := by simp; omega
        rw [h2]; simp
    rw [hr]
    exact right_other f w hk

end Go.Proofs.YtebeekjcepjcnaaGreatDoor
