/-
  A region that draws its order: one walk, in one order, serves every order. Stores stand in a chain; an operation may have whatever value, if all behind it wait for it.
-/
import Derived.Still
import Derived.Test.YtebeekjcepjcnaaGreatDoorRIpback
namespace Go.Proofs.YtebeekjcepjcnaaGreatDoor
open Go.RowKit

/-- Two frames that agree where an operation looks. -/
def Agree (T : List Tmp) (a b : Act) : Prop := a.tmps.size = b.tmps.size ∧ a.defers = b.defers ∧ ∀ t ∈ T, a.tmps[t]? = b.tmps[t]?
section
variable {T : List Tmp} {a b : Act}
theorem Agree.refl (T : List Tmp) (a : Act) : Agree T a a := ⟨rfl, rfl, fun _ _ => rfl⟩
theorem Agree.symm (h : Agree T a b) : Agree T b a := ⟨h.1.symm, h.2.1.symm, fun t ht => (h.2.2 t ht).symm⟩
theorem Agree.put (h : Agree T a b) (d : Option Tmp) (v : Value) : Agree T (a.put d v) (b.put d v) := by
  cases d with
  | none => exact h
  | some d =>
    refine ⟨by simp [Act.put, h.1], h.2.1, fun t ht => ?_⟩
    simp only [Act.put, Array.getElem?_setIfInBounds]
    rw [h.1, h.2.2 t ht]
theorem Agree.putL (h : Agree T a b) (d : Option Tmp) (v : Value) (hd : ∀ e, d = some e → e ∉ T) : Agree T (a.put d v) b := by
  cases d with
  | none => exact h
  | some d =>
    refine ⟨by simp [Act.put, h.1], h.2.1, fun t ht => ?_⟩
    have hne : d ≠ t := fun e => hd d rfl (e ▸ ht)
    simp only [Act.put, Array.getElem?_setIfInBounds_ne hne]
    exact h.2.2 t ht
theorem Agree.putR (h : Agree T a b) (d : Option Tmp) (v : Value) (hd : ∀ e, d = some e → e ∉ T) : Agree T a (b.put d v) := (h.symm.putL d v hd).symm
theorem Agree.exec {ops : Array Oper} {o : Oper} (h : Agree (o.looksAt ops) a b) (hs : ∀ cs b, o.op ≠ .select cs b) : execOp a.eval o = execOp b.eval o :=
  execOp_congr o hs fun x hx => by
    cases x with
    | tmp t =>
      have := h.2.2 t (List.mem_append_left _ (List.mem_filterMap.2 ⟨.tmp t, by simpa using hx, rfl⟩))
      simp only [Act.eval, Array.getD_eq_getD_getElem?, this]
    | _ => rfl
theorem Agree.wanted {ops : Array Oper} {o : Oper} (h : Agree (o.looksAt ops) a b) : Region.wanted o (yielded ops a.tmps) = Region.wanted o (yielded ops b.tmps) := by
  unfold Region.wanted
  cases hg : o.guard with
  | none => rfl
  | some gw =>
    obtain ⟨g, want⟩ := gw
    have hy : yielded ops a.tmps g = yielded ops b.tmps g := by
      unfold yielded
      cases ht : (ops[g]?).bind (·.dst) with
      | none => rfl
      | some t =>
        have := h.2.2 t (by simp [Oper.looksAt, hg, ht])
        simp only [Option.bind_some, this]
    simp only [hy]
end

def dstOf (ops : Array Oper) (j : Nat) : Option Tmp := (ops[j]?).bind (·.dst)
def waitsB (o : Oper) (i : Nat) : Bool := o.after.any fun e => Region.binds .any e && e.on == i
def setL (L : Nat → Bool) (k : Nat) : Nat → Bool := fun j => j == k || L j
theorem setL_ne {L : Nat → Bool} {k j : Nat} (h : j ≠ k) : setL L k j = L j := by simp [setL, h]
def NoQ : Exit → Act → World → Prop := fun _ _ _ => False
def TextPost (a' : Act) (F : World → Prop) (a : Act) (W : World) : Prop := a = a' ∧ F W
theorem TextPost.mk {a : Act} {F : World → Prop} {W : World} (h : F W) : TextPost a F a W := ⟨rfl, h⟩

theorem put_same {a b : Act} {d : Option Tmp} {u v : Value} (hs : a.tmps.size = b.tmps.size) (h : a.put d u = a.put d v) : b.put d u = b.put d v := by
  cases d with
  | none => rfl
  | some d =>
    simp only [Act.put, Act.mk.injEq, and_true] at h ⊢
    by_cases hd : d < a.tmps.size
    · have := congrArg (·[d]?) h
      simp only [Array.getElem?_setIfInBounds_self_of_lt hd, Option.some.injEq] at this
      rw [this]
    · have hd' : b.tmps.size ≤ d := by rw [← hs]; exact Nat.le_of_not_lt hd
      rw [Array.setIfInBounds_eq_of_size_le hd', Array.setIfInBounds_eq_of_size_le hd']

/-! ### The walk, with stores in a chain and operations of whatever value -/

def Closed (ops : Array Oper) (L : Nat → Bool) : Prop := ∀ (j : Nat) (oj : Oper), ops[j]? = some oj → L j = true → ∀ e ∈ oj.after, Region.binds .any e = true → L e.on = true
def Deps (L : Nat → Bool) (o : Oper) : Prop := ∀ e ∈ o.after, Region.binds .any e = true → L e.on = true
theorem waitsB_spec {o : Oper} {i : Nat} (h : waitsB o i = true) {L : Nat → Bool} (hd : Deps L o) : L i = true := by
  simp only [waitsB, Array.any_eq_true', Bool.and_eq_true, beq_iff_eq] at h
  obtain ⟨e, h1, h2, h3⟩ := h
  have := hd e h1 h2
  rwa [h3] at this
def frameL (ops : Array Oper) (v : Nat → Value) (L : Nat → Bool) (l : List Nat) (a : Act) : Act := l.foldl (fun a k => if L k then a.put (dstOf ops k) (v k) else a) a
def pairOk (ops : Array Oper) (i j : Nat) : Bool := ((ops[i]?).map fun oi => ((ops[j]?).map fun oj => waitsB oj i || oi.apart ops oj).getD false).getD false
theorem pairOk_spec {ops : Array Oper} {i j : Nat} {oi oj : Oper} (h : pairOk ops i j = true) (hi : ops[i]? = some oi) (hj : ops[j]? = some oj) : waitsB oj i = true ∨ oi.apart ops oj = true := by
  simpa [pairOk, hi, hj] using h
theorem pairOk_left {ops : Array Oper} {i j : Nat} (h : pairOk ops i j = true) : ∃ oi, ops[i]? = some oi := by
  cases hi : ops[i]? with
  | none => simp [pairOk, hi] at h
  | some o => exact ⟨o, rfl⟩
theorem pairOk_right {ops : Array Oper} {i j : Nat} (h : pairOk ops i j = true) : ∃ oj, ops[j]? = some oj := by
  obtain ⟨oi, hi⟩ := pairOk_left h
  cases hj : ops[j]? with
  | none => simp [pairOk, hi, hj] at h
  | some o => exact ⟨o, rfl⟩
def ordOk (ops : Array Oper) : List Nat → Bool
  | [] => true
  | i :: rest => rest.all (fun j => pairOk ops i j && i != j) && ordOk ops rest
theorem ordOk_split {ops : Array Oper} {i : Nat} {p2 : List Nat} : ∀ {p1 : List Nat}, ordOk ops (p1 ++ i :: p2) = true → (∀ j ∈ p1, pairOk ops j i = true) ∧ (∀ j ∈ p2, pairOk ops i j = true) ∧ i ∉ p1 ∧ i ∉ p2
  | [], h => by
    simp only [List.nil_append, ordOk, Bool.and_eq_true, List.all_eq_true] at h
    refine ⟨fun j hj => by simp at hj, fun j hj => (h.1 j hj).1, by simp, fun hi => ?_⟩
    have := (h.1 i hi).2
    simp at this
  | x :: p1, h => by
    simp only [List.cons_append, ordOk, Bool.and_eq_true, List.all_eq_true] at h
    obtain ⟨h1, h2, h3, h4⟩ := ordOk_split h.2
    have hx := h.1 i (by simp)
    refine ⟨fun j hj => ?_, h2, ?_, h4⟩
    · rcases List.mem_cons.1 hj with rfl | hj
      · exact hx.1
      · exact h1 j hj
    · intro hi
      rcases List.mem_cons.1 hi with rfl | hi
      · simp at hx
      · exact h3 hi
theorem ordOk_nodup {ops : Array Oper} : ∀ {l : List Nat}, ordOk ops l = true → l.Nodup
  | [], _ => List.nodup_nil
  | i :: rest, h => by
    have hs := (ordOk_split (p1 := []) (i := i) (p2 := rest) h).2.2.2
    simp only [ordOk, Bool.and_eq_true] at h
    exact List.nodup_cons.2 ⟨hs, ordOk_nodup h.2⟩

section
variable {P : Program} {ops : Array Oper} {Q : Exit → Act → World → Prop} {v v' : Nat → Value} {L L' : Nat → Bool}

theorem upd_at (v : Nat → Value) (i : Nat) (x : Value) : upd v i x i = x := if_pos rfl
theorem upd_ne {v : Nat → Value} {i j : Nat} {x : Value} (h : j ≠ i) : upd v i x j = v j := if_neg h
def mix (pre : List Nat) (v : Nat → Value) (i : Nat) (x : Value) (v2 : Nat → Value) : Nat → Value := fun j => if j ∈ pre then v j else if j = i then x else v2 j
theorem mix_pre {pre : List Nat} {v v2 : Nat → Value} {i j : Nat} {x : Value} (h : j ∈ pre) : mix pre v i x v2 j = v j := if_pos h
theorem mix_at {pre : List Nat} {v v2 : Nat → Value} {i : Nat} {x : Value} (h : i ∉ pre) : mix pre v i x v2 i = x := by unfold mix; rw [if_neg h, if_pos rfl]
theorem mix_other {pre : List Nat} {v v2 : Nat → Value} {i j : Nat} {x : Value} (h : j ∉ pre) (hn : j ≠ i) : mix pre v i x v2 j = v2 j := by unfold mix; rw [if_neg h, if_neg hn]

theorem frameL_append (l m : List Nat) (a : Act) : frameL ops v L (l ++ m) a = frameL ops v L m (frameL ops v L l a) := by simp [frameL]
theorem frameL_cons (k : Nat) (m : List Nat) (a : Act) : frameL ops v L (k :: m) a = frameL ops v L m (if L k then a.put (dstOf ops k) (v k) else a) := rfl
theorem frameL_congr : ∀ (l : List Nat) (a : Act), (∀ j ∈ l, L j = L' j ∧ (L j = true → v j = v' j)) → frameL ops v L l a = frameL ops v' L' l a
  | [], _, _ => rfl
  | k :: l, a, h => by
    obtain ⟨h1, h2⟩ := h k (by simp)
    rw [frameL_cons, frameL_cons, ← h1]
    by_cases hL : L k = true
    · rw [if_pos hL, if_pos hL, ← h2 hL]; exact frameL_congr l _ fun j hj => h j (by simp [hj])
    · rw [if_neg hL, if_neg hL]; exact frameL_congr l _ fun j hj => h j (by simp [hj])
theorem frameL_none : ∀ (l : List Nat) (a : Act), (∀ j ∈ l, L j = false) → frameL ops v L l a = a
  | [], _, _ => rfl
  | k :: l, a, h => by
    rw [frameL_cons, h k (by simp)]
    exact frameL_none l a fun j hj => h j (by simp [hj])

theorem agree_before {i : Nat} {oi : Oper} (ho : ops[i]? = some oi) (hd : Deps L oi) : ∀ (l : List Nat) (a b : Act), (∀ j ∈ l, pairOk ops j i = true) → Agree (oi.looksAt ops) a b →
    Agree (oi.looksAt ops) (frameL ops v L l a) (frameL ops v (fun _ => true) l b)
  | [], _, _, _, h => h
  | k :: l, a, b, hp, h => by
    rw [frameL_cons, frameL_cons, if_pos rfl]
    refine agree_before ho hd l _ _ (fun j hj => hp j (by simp [hj])) ?_
    by_cases hL : L k = true
    · rw [if_pos hL]; exact h.put _ _
    · rw [if_neg hL]
      refine h.putR _ _ ?_
      obtain ⟨ok, hk⟩ := pairOk_left (hp k (by simp))
      rcases pairOk_spec (hp k (by simp)) hk ho with hw | hap
      · exact absurd (waitsB_spec hw hd) hL
      · rw [show dstOf ops k = ok.dst by simp [dstOf, hk]]; exact (Oper.apart_spec hap).1
theorem agree_behind {i : Nat} {oi : Oper} (ho : ops[i]? = some oi) (hL : L i = false) (hc : Closed ops L) : ∀ (l : List Nat) (a b : Act), (∀ j ∈ l, pairOk ops i j = true) → Agree (oi.looksAt ops) a b →
    Agree (oi.looksAt ops) (frameL ops v L l a) b
  | [], _, _, _, h => h
  | k :: l, a, b, hp, h => by
    rw [frameL_cons]
    refine agree_behind ho hL hc l _ _ (fun j hj => hp j (by simp [hj])) ?_
    by_cases hLk : L k = true
    · rw [if_pos hLk]
      refine h.putL _ _ ?_
      obtain ⟨ok, hk⟩ := pairOk_right (hp k (by simp))
      rcases pairOk_spec (hp k (by simp)) ho hk with hw | hap
      · have := waitsB_spec hw (hc k ok hk hLk)
        rw [hL] at this; cases this
      · rw [show dstOf ops k = ok.dst by simp [dstOf, hk]]; exact (Oper.apart_spec hap).2.2
    · rw [if_neg hLk]; exact h
theorem frameL_set {i : Nat} {oi : Oper} (ho : ops[i]? = some oi) (hL : L i = false) (hc : Closed ops L) (x : Value) : ∀ (l : List Nat) (a : Act), (∀ j ∈ l, pairOk ops i j = true) → i ∉ l →
    frameL ops v (setL L i) l (a.put oi.dst x) = (frameL ops v L l a).put oi.dst x
  | [], _, _, _ => rfl
  | k :: l, a, hp, hi => by
    have hki : k ≠ i := fun e => hi (by simp [e])
    rw [frameL_cons, frameL_cons, show setL L i k = L k by simp [setL, hki]]
    by_cases hLk : L k = true
    · rw [if_pos hLk, if_pos hLk]
      obtain ⟨ok, hk⟩ := pairOk_right (hp k (by simp))
      rw [← frameL_set ho hL hc x l _ (fun j hj => hp j (by simp [hj])) (fun h => hi (by simp [h]))]
      congr 1
      rcases pairOk_spec (hp k (by simp)) ho hk with hw | hap
      · have := waitsB_spec hw (hc k ok hk hLk)
        rw [hL] at this; cases this
      · rw [show dstOf ops k = ok.dst by simp [dstOf, hk]]; exact Act.put_comm _ _ _ (Oper.apart_spec hap).2.1
    · rw [if_neg hLk, if_neg hLk]
      exact frameL_set ho hL hc x l _ (fun j hj => hp j (by simp [hj])) (fun h => hi (by simp [h]))

/-- The stores stand in a chain: how many are done. -/
def chainB (ops : Array Oper) : List Nat → Bool
  | [] => true
  | i :: rest => rest.all (fun j => ((ops[j]?).map fun oj => waitsB oj i).getD false && i != j) && chainB ops rest
theorem chainB_split {i : Nat} {s2 : List Nat} : ∀ {s1 : List Nat}, chainB ops (s1 ++ i :: s2) = true → (∀ j ∈ s1, ((ops[i]?).map fun oi => waitsB oi j).getD false = true) ∧ (∀ j ∈ s2, ((ops[j]?).map fun oj => waitsB oj i).getD false = true) ∧ i ∉ s1 ∧ i ∉ s2
  | [], h => by
    simp only [List.nil_append, chainB, Bool.and_eq_true, List.all_eq_true] at h
    refine ⟨fun j hj => by simp at hj, fun j hj => (h.1 j hj).1, by simp, fun hi => ?_⟩
    have := (h.1 i hi).2
    simp at this
  | x :: s1, h => by
    simp only [List.cons_append, chainB, Bool.and_eq_true, List.all_eq_true] at h
    obtain ⟨h1, h2, h3, h4⟩ := chainB_split h.2
    have hx := h.1 i (by simp)
    refine ⟨fun j hj => ?_, h2, ?_, h4⟩
    · rcases List.mem_cons.1 hj with rfl | hj
      · exact hx.1
      · exact h1 j hj
    · intro hi
      rcases List.mem_cons.1 hi with rfl | hi
      · simp at hx
      · exact h3 hi
theorem stage_at {S : List Nat} (hch : chainB ops S = true) {i : Nat} {oi : Oper} (ho : ops[i]? = some oi) (hL : L i = false) (hc : Closed ops L) (hd : Deps L oi) (hS : S.contains i = true) :
    S.countP L = S.idxOf i ∧ S.countP (setL L i) = S.idxOf i + 1 := by
  obtain ⟨s1, s2, rfl⟩ := List.append_of_mem (List.contains_iff_mem.1 hS)
  obtain ⟨h1, h2, h3, h4⟩ := chainB_split hch
  have e1 : s1.countP L = s1.length := List.countP_eq_length.2 fun x hx => by
    have := h1 x hx
    simp only [ho, Option.map_some, Option.getD_some] at this
    exact waitsB_spec this hd
  have e2 : s2.countP L = 0 := List.countP_eq_zero.2 fun x hx hLx => by
    have := h2 x hx
    cases hox : ops[x]? with
    | none => simp [hox] at this
    | some ox =>
      simp only [hox, Option.map_some, Option.getD_some] at this
      have := waitsB_spec this (hc x ox hox hLx)
      rw [hL] at this; cases this
  have e3 : ∀ l : List Nat, i ∉ l → l.countP (setL L i) = l.countP L := fun l hl => List.countP_congr fun x hx => by
    have hne : x ≠ i := fun e => hl (e ▸ hx)
    simp [setL, hne]
  rw [List.countP_append, List.countP_cons, List.countP_append, List.countP_cons, e3 s1 h3, e3 s2 h4, e1, e2, hL]
  rw [List.idxOf_append, if_neg h3]
  simp [setL]
theorem stage_other {S : List Nat} {i : Nat} (hS : S.contains i = false) : S.countP (setL L i) = S.countP L := List.countP_congr fun x hx => by
  have hne : x ≠ i := fun e => by
    subst e
    rw [List.contains_iff_mem.2 hx] at hS; cases hS
  simp [setL, hne]

def Facts' (Fs : List (World → Prop)) (W : World) : Prop := ∀ f ∈ Fs, f W
def waitsAny (o : Oper) (l : List Nat) : Bool := o.after.any fun e => Region.binds .any e && l.contains e.on
/-- All but the free ones wait. -/
def waitAll (ops : Array Oper) (fr : List Nat) : List Nat → List Nat → Bool
  | _, [] => true
  | seen, i :: r => if fr.contains i then waitAll ops fr seen r else ((ops[i]?).map fun o => waitsAny o seen).getD false && waitAll ops fr (i :: seen) r
theorem waitAll_spec {fr : List Nat} {i : Nat} {oi : Oper} (ho : ops[i]? = some oi) (hd : Deps L oi) (hfr : fr.contains i = false) : ∀ (r seen : List Nat), waitAll ops fr seen r = true → (∀ j ∈ seen, L j = false) → (∀ j ∈ r, fr.contains j = false → L j = false) → i ∈ r → False
  | [], _, _, _, _, h => by simp at h
  | k :: r, seen, hw, hs, hr, hi => by
    unfold waitAll at hw
    by_cases hk : fr.contains k = true
    · rw [if_pos hk] at hw
      rcases List.mem_cons.1 hi with rfl | hi
      · rw [hfr] at hk; cases hk
      · exact waitAll_spec ho hd hfr r seen hw hs (fun j hj => hr j (by simp [hj])) hi
    · rw [if_neg hk, Bool.and_eq_true] at hw
      rcases List.mem_cons.1 hi with rfl | hi
      · have := hw.1
        simp only [ho, Option.map_some, Option.getD_some, waitsAny, Array.any_eq_true', Bool.and_eq_true] at this
        obtain ⟨e, h1, h2, h3⟩ := this
        have h4 := hd e h1 h2
        rw [hs _ (List.contains_iff_mem.1 h3)] at h4
        cases h4
      · refine waitAll_spec ho hd hfr r (k :: seen) hw.2 (fun j hj => ?_) (fun j hj => hr j (by simp [hj])) hi
        rcases List.mem_cons.1 hj with rfl | hj
        · exact hr _ (by simp) (by simpa using hk)
        · exact hs j hj

section
variable (P ops Q) (E : Nat → World → Prop) (S : List Nat) (G : World → World → Prop) (fr : List Nat) (FF : Nat → Value → World → Prop)
def NodeDet (Fs : List (World → Prop)) (k : Nat) (o : Oper) (a : Act) (v : Value) : Prop :=
  ∀ c W, (S.contains k = true → c = S.idxOf k) → E c W → Facts' Fs W → wpList P ops (Exit.then (TextPost (a.put o.dst v) fun W' => G W W' ∧ E (if S.contains k then c + 1 else c) W') NoQ) [o] a W
def AnyPost (a : Act) (d : Option Tmp) (F : Value → World → Prop) (H : World → Prop) (a' : Act) (W' : World) : Prop := ∃ u, a' = a.put d u ∧ F u W' ∧ H W'
def NodeAny (Fs : List (World → Prop)) (k : Nat) (o : Oper) (a : Act) (F : Value → World → Prop) : Prop :=
  ∀ c W, (S.contains k = true → c = S.idxOf k) → E c W → Facts' Fs W → wpList P ops (Exit.then (AnyPost a o.dst F fun W' => G W W' ∧ E (if S.contains k then c + 1 else c) W') NoQ) [o] a W
def Walk : List (World → Prop) → List Nat → Act → Prop
  | Fs, [], a => ∀ W, E S.length W → Facts' Fs W → Q .normal a W
  | Fs, k :: rest, a => ∃ o, ops[k]? = some o ∧ ((∃ v, fr.contains k = false ∧ NodeDet P ops E S G Fs k o a v ∧ Walk Fs rest (a.put o.dst v)) ∨
      (∃ F : Value → World → Prop, (fr.contains k = true → F = FF k) ∧ (∀ u W W', F u W → G W W' → F u W') ∧ waitAll ops fr [k] rest = true ∧ NodeAny P ops E S G Fs k o a F ∧ ∀ u, Walk (F u :: Fs) rest (a.put o.dst u)))
def Front (L : Nat → Bool) (Fs : List (World → Prop)) (post : List Nat) (a : Act) : Prop :=
  (post = [] ∧ ∀ W, E S.length W → Facts' Fs W → Q .normal a W) ∨
  ∃ k rest o, ∃ F : Value → World → Prop, post = k :: rest ∧ L k = false ∧ ops[k]? = some o ∧ (fr.contains k = true → F = FF k) ∧ (∀ u W W', F u W → G W W' → F u W') ∧ waitAll ops fr [k] rest = true ∧ NodeAny P ops E S G Fs k o a F ∧ ∀ u, Walk P ops Q E S G fr FF (F u :: Fs) rest (a.put o.dst u)
end

variable {E : Nat → World → Prop} {S : List Nat} {G : World → World → Prop} {fr : List Nat} {FF : Nat → Value → World → Prop}
theorem NodeDet.more {Fs Fs' : List (World → Prop)} {k : Nat} {o : Oper} {a : Act} {x : Value} (h : NodeDet P ops E S G Fs k o a x) (hs : ∀ f ∈ Fs, f ∈ Fs') : NodeDet P ops E S G Fs' k o a x :=
  fun c W hc hE hF => h c W hc hE fun g hg => hF g (hs g hg)
/-- The walk as far as the first operation that has not come up, and whose value is not known. -/
theorem Walk.part (v0 : Nat → Value) : ∀ (l : List Nat) (Fs : List (World → Prop)) (a : Act), l.Nodup → (∀ j ∈ l, L j = true → fr.contains j = true) → Walk P ops Q E S G fr FF Fs l a → ∃ dets post, ∃ v : Nat → Value, ∃ Fs' : List (World → Prop), l = dets ++ post ∧
    (∀ j, L j = true → v j = v0 j) ∧ (∀ f ∈ Fs, f ∈ Fs') ∧ (∀ f ∈ Fs', f ∈ Fs ∨ ∃ k, fr.contains k = true ∧ L k = true ∧ f = FF k (v0 k) ∧ ∀ W W', f W → G W W' → f W') ∧
    (∀ i ∈ dets, L i = false → ∃ p1 p2 o, dets = p1 ++ i :: p2 ∧ ops[i]? = some o ∧ fr.contains i = false ∧ NodeDet P ops E S G Fs' i o (frameL ops v (fun _ => true) p1 a) (v i)) ∧ Front P ops Q E S G fr FF L Fs' post (frameL ops v (fun _ => true) dets a)
  | [], Fs, a, _, _, h => ⟨[], [], v0, Fs, rfl, fun _ _ => rfl, fun _ h => h, fun _ h => .inl h, fun i hi => by simp at hi, .inl ⟨rfl, h⟩⟩
  | k :: l, Fs, a, hn, hx, h => by
    obtain ⟨hk, hn'⟩ := List.nodup_cons.1 hn
    obtain ⟨o, ho, ⟨x, h0, h1, h2⟩ | ⟨F, hFF, h1, h2, h3, h4⟩⟩ := h
    all_goals have hdst : dstOf ops k = o.dst := by simp [dstOf, ho]
    · have hLk : L k = false := by
        cases hL : L k with
        | false => rfl
        | true => have := hx k (by simp) hL; rw [h0] at this; cases this
      obtain ⟨dets, post, v, Fs', e, hv0, hs1, hs2, hd, hf⟩ := Walk.part v0 l Fs _ hn' (fun j hj => hx j (by simp [hj])) h2
      have hv : ∀ m : List Nat, k ∉ m → ∀ b, frameL ops (upd v k x) (fun _ => true) m b = frameL ops v (fun _ => true) m b := fun m hm b =>
        frameL_congr m b fun j hj => ⟨rfl, fun _ => upd_ne fun h' => hm (h' ▸ hj)⟩
      have hkd : k ∉ dets := fun hx => hk (by rw [e]; simp [hx])
      refine ⟨k :: dets, post, upd v k x, Fs', by rw [e]; rfl, fun j hj => ?_, hs1, hs2, fun i hi hLi => ?_, ?_⟩
      · have hjk : j ≠ k := fun h' => by rw [h', hLk] at hj; cases hj
        rw [upd_ne hjk]; exact hv0 j hj
      · rcases List.mem_cons.1 hi with rfl | hi
        · exact ⟨[], dets, o, rfl, ho, h0, by rw [upd_at]; exact h1.more hs1⟩
        · obtain ⟨p1, p2, oi, e2, hoi, hfi, hdet⟩ := hd i hi hLi
          have hkp : k ∉ p1 := fun hx => hkd (by rw [e2]; simp [hx])
          have hik : i ≠ k := fun hx => hkd (hx ▸ hi)
          refine ⟨k :: p1, p2, oi, by rw [e2]; rfl, hoi, hfi, ?_⟩
          rw [frameL_cons, if_pos rfl, hdst, hv p1 hkp, upd_ne hik, upd_at]
          exact hdet
      · rw [frameL_cons, if_pos rfl, hdst, hv dets hkd, upd_at]
        exact hf
    · by_cases hLk : L k = true
      · have hfk := hx k (by simp) hLk
        obtain rfl := hFF hfk
        obtain ⟨dets, post, v, Fs', e, hv0, hs1, hs2, hd, hf⟩ := Walk.part v0 l _ _ hn' (fun j hj => hx j (by simp [hj])) (h4 (v0 k))
        have hkd : k ∉ dets := fun hx => hk (by rw [e]; simp [hx])
        refine ⟨k :: dets, post, v, Fs', by rw [e]; rfl, hv0, fun f hf => hs1 f (by simp [hf]), fun f hf => ?_, fun i hi hLi => ?_, ?_⟩
        · rcases hs2 f hf with hf | hf
          · rcases List.mem_cons.1 hf with rfl | hf
            · exact .inr ⟨k, hfk, hLk, rfl, h1 _⟩
            · exact .inl hf
          · exact .inr hf
        · rcases List.mem_cons.1 hi with rfl | hi
          · rw [hLk] at hLi; cases hLi
          · obtain ⟨p1, p2, oi, e2, hoi, hfi, hdet⟩ := hd i hi hLi
            refine ⟨k :: p1, p2, oi, by rw [e2]; rfl, hoi, hfi, ?_⟩
            rw [frameL_cons, if_pos rfl, hdst, hv0 k hLk]
            exact hdet
        · rw [frameL_cons, if_pos rfl, hdst, hv0 k hLk]
          exact hf
      · exact ⟨[], k :: l, v0, Fs, rfl, fun _ _ => rfl, fun _ h => h, fun _ h => .inl h, (fun i hi => by simp at hi), .inr ⟨k, l, o, F, rfl, by simpa using hLk, ho, hFF, h1, h2, h3, h4⟩⟩

/-- What one frame shows, another shows that agrees with it where the operation looks. -/
theorem wpList_agree2 {o : Oper} {a b : Act} {K0 K : Act → World → Prop} {W : World} (hs : ∀ cs b, o.op ≠ .select cs b) (hag : Agree (o.looksAt ops) b a)
    (hK : ∀ u W', K0 (a.put o.dst u) W' → K (b.put o.dst u) W') (hdef : ∀ x W', K0 x W' → x.defers = a.defers) (h : wpList P ops (Exit.then K0 NoQ) [o] a W) : wpList P ops (Exit.then K Q) [o] b W := by
  simp only [wpList, hag.wanted] at h ⊢
  by_cases hw : Region.wanted o (yielded ops a.tmps) = true
  · simp only [hw, if_true] at h ⊢
    rcases h with h | ⟨_, a', w', hx⟩
    · refine .inl ?_
      unfold Oper.wp at h ⊢
      rw [hag.exec hs]
      generalize (execOp a.eval o).run P W = r at *
      cases r with
      | ok n w' =>
        cases n <;> simp only [Oper.upon] at h ⊢
        case value u => exact hK _ _ h
        case skip => exact hK _ _ h
        case enter f args =>
          refine Calls.mono h fun e w'' he => ?_
          cases e with
          | returned u => exact hK _ _ he
          | panicked c => exact (he : False).elim
          | outgrown => obtain ⟨_, _, hx⟩ := he; exact (hx : False).elim
        case row r args => exact Rows.mono h fun u w'' he => hK _ _ he
        case defer d =>
          exfalso
          have h2 := congrArg List.length (hdef _ _ h)
          rw [← Act.put_defers] at h2
          have hl : ∀ x, (a.put o.dst x).defers = a.defers := fun x => by cases o.dst <;> rfl
          simp only [hl, List.length_cons] at h2
          omega
      | halt x w' =>
        cases x <;> simp only [Oper.upon] at h ⊢
        exact (h : False).elim
    · exact (hx : False).elim
  · simp only [hw] at h ⊢
    exact hK _ _ h
theorem put_defs (a : Act) (d : Option Tmp) (x : Value) : (a.put d x).defers = a.defers := by cases d <;> rfl

def walkB (ops : Array Oper) (S ord : List Nat) : Bool := Region.noSelect ops && depsOk ops && ordOk ops ord && chainB ops S && (List.range ops.size).all (fun i => ord.contains i) && ord.all (fun i => decide (i < ops.size)) && S.all fun i => decide (i < ops.size)

theorem closed_set (hc : Closed ops L) {i : Nat} {o : Oper} (ho : ops[i]? = some o) (hd : Deps L o) : Closed ops (setL L i) := fun j oj hj hL e he hb => by
  by_cases hji : j = i
  · subst hji
    rw [ho] at hj
    injection hj with hj
    subst hj
    simp [setL, hd e he hb]
  · have : L j = true := by simpa [setL, hji] using hL
    simp [setL, hc j oj hj this e he hb]
theorem stage_next {S : List Nat} (hch : chainB ops S = true) {i : Nat} {oi : Oper} (ho : ops[i]? = some oi) (hL : L i = false) (hc : Closed ops L) (hd : Deps L oi) : S.countP (setL L i) = if S.contains i then S.countP L + 1 else S.countP L := by
  by_cases hS : S.contains i = true
  · rw [if_pos hS, (stage_at hch ho hL hc hd hS).1, (stage_at hch ho hL hc hd hS).2]
  · rw [if_neg hS, stage_other (by simpa using hS)]
/-- What one operation more does to the frame. -/
theorem frame_more {i : Nat} {oi : Oper} (ho : ops[i]? = some oi) (hL : L i = false) (hc : Closed ops L) {p1 p2 : List Nat} (h2 : ∀ j ∈ p2, pairOk ops i j = true) (h3 : i ∉ p1) (h4 : i ∉ p2) (a : Act) (x : Value)
    (hv : ∀ j, L j = true → v' j = v j) (hx : v' i = x) : frameL ops v' (setL L i) (p1 ++ i :: p2) a = (frameL ops v L (p1 ++ i :: p2) a).put oi.dst x := by
  have n1 : ∀ j ∈ p1, j ≠ i := fun j hj h => h3 (h ▸ hj)
  have n2 : ∀ j ∈ p2, j ≠ i := fun j hj h => h4 (h ▸ hj)
  rw [frameL_append, frameL_append, frameL_cons, frameL_cons, hL]
  rw [frameL_congr (L := setL L i) (L' := L) (v := v') (v' := v) p1 a fun j hj => ⟨setL_ne (n1 j hj), fun h => hv j (by rwa [setL_ne (n1 j hj)] at h)⟩]
  rw [show setL L i i = true by simp [setL], if_pos rfl, show dstOf ops i = oi.dst by simp [dstOf, ho], hx]
  rw [frameL_congr (L := setL L i) (L' := setL L i) (v := v') (v' := v) p2 _ fun j hj => ⟨rfl, fun h => hv j (by rwa [setL_ne (n2 j hj)] at h)⟩]
  exact frameL_set ho hL hc x p2 _ h2 h4

/-- What holds of every order, at every moment. -/
def Inv (P : Program) (ops : Array Oper) (Q : Exit → Act → World → Prop) (E : Nat → World → Prop) (S : List Nat) (G : World → World → Prop) (fr : List Nat) (FF : Nat → Value → World → Prop) (ord : List Nat) (a0 : Act) (L : Nat → Bool) (a : Act) (W : World) : Prop :=
  Closed ops L ∧ E (S.countP L) W ∧ ∃ pre post, ∃ v : Nat → Value, ∃ Fs : List (World → Prop), ord = pre ++ post ∧ (∀ i ∈ post, L i = true → fr.contains i = true) ∧ a = frameL ops v L (pre ++ post) a0 ∧ Facts' Fs W ∧
    (∀ f ∈ Fs, ∀ W W', f W → G W W' → f W') ∧ (∀ k, fr.contains k = true → L k = true → FF k (v k) W) ∧
    (∀ i ∈ pre, L i = false → ∃ p1 p2 o, pre = p1 ++ i :: p2 ∧ ops[i]? = some o ∧ fr.contains i = false ∧ NodeDet P ops E S G Fs i o (frameL ops v (fun _ => true) p1 a0) (v i)) ∧
    Front P ops Q E S G fr FF L Fs post (frameL ops v (fun _ => true) pre a0)

/-- ONE WALK SERVES EVERY ORDER. -/
theorem wp_region_walk {id : Nat} {w : World} {l : List Oper} {a0 : Act} (hm : P.follows .mixedOrders = true) (E : Nat → World → Prop) (S : List Nat) (G : World → World → Prop) (fr : List Nat) (FF : Nat → Value → World → Prop) (ord : List Nat) (hB : walkB l.toArray S ord = true)
    (hfree : ∀ k ∈ fr, S.contains k = false ∧ (∀ u W W', FF k u W → G W W' → FF k u W') ∧ ∀ o, l.toArray[k]? = some o → ∀ a c W, E c W → wpList P l.toArray (Exit.then (AnyPost a o.dst (FF k) fun W' => G W W' ∧ E c W') NoQ) [o] a W)
    (hE0 : E 0 w.drew) (h : Walk P l.toArray Q E S G fr FF [] ord a0) : (Code.region id l.toArray true).wp P Q a0 w := by
  simp only [walkB, Bool.and_eq_true] at hB
  obtain ⟨⟨⟨⟨⟨⟨hsel, hdeps⟩, hord⟩, hch⟩, hall⟩, hin⟩, hSin⟩ := hB
  generalize l.toArray = ops at *
  have hn := ordOk_nodup hord
  obtain ⟨dets, post, v, Fs0, e0, _, _, hs0, hd0, hf0⟩ := Walk.part (L := fun _ => false) (fun _ => undef) ord [] a0 hn (fun _ _ h => by cases h) h
  have hnoF : ∀ f ∈ Fs0, False := fun f hf => by
    rcases hs0 f hf with hf | ⟨k, _, hk, _⟩
    · simp at hf
    · cases hk
  refine wp_region_inv hm (depsOk_spec hdeps) (Inv P ops Q E S G fr FF ord a0) ?h0 ?hstep ?hend
  case h0 =>
    refine ⟨(fun _ _ _ h => by cases h), ?_, dets, post, v, Fs0, e0, (fun _ _ h => by cases h), (frameL_none _ _ fun _ _ => rfl).symm, fun f hf => (hnoF f hf).elim, fun f hf => (hnoF f hf).elim, (fun _ _ h => by cases h), hd0, hf0⟩
    rw [List.countP_eq_zero.2 fun x _ h => by cases h]
    exact hE0
  case hend =>
    rintro L a W hL ⟨_, hE, pre, post, v, Fs, e, hpost, rfl, hF, _, _, _, hfr⟩
    have hlt : ∀ i, i ∈ ord → i < ops.size := fun i hi => by simpa using List.all_eq_true.1 hin i hi
    rcases hfr with ⟨rfl, hfin⟩ | ⟨k, rest, _, _, rfl, hk, _⟩
    · rw [List.append_nil, frameL_congr (L' := fun _ => true) (v' := v) pre a0 fun j hj => ⟨hL j (hlt j (by rw [e]; simp [hj])), fun _ => rfl⟩]
      rw [List.countP_eq_length.2 fun x hx => hL x (by simpa using List.all_eq_true.1 hSin x hx)] at hE
      exact hfin W hE hF
    · rw [hL k (hlt k (by rw [e]; simp))] at hk
      cases hk
  case hstep =>
    rintro L a W i o ho hLi hdep ⟨hc, hE, pre, post, v, Fs, e, hpost, rfl, hF, hcl, hFr, hdet, hfr⟩
    have hi := (Array.getElem?_eq_some_iff.1 ho).1
    have himem : i ∈ ord := List.contains_iff_mem.1 (List.all_eq_true.1 hall i (List.mem_range.2 hi))
    have hsl := Region.noSelect_spec hsel i o
    have hst := stage_next hch ho hLi hc hdep
    have hordpp := hord
    rw [e] at himem hn hordpp
    rcases List.mem_append.1 himem with hip | hip
    · obtain ⟨p1, p2, o', rfl, ho', hnf, hrun0⟩ := hdet i hip hLi
      rw [ho] at ho'
      injection ho' with ho'
      subst ho'
      have hord' := hordpp
      rw [List.append_assoc, List.cons_append] at hord'
      obtain ⟨h1, h2, h3, h4⟩ := ordOk_split hord'
      have hag : Agree (o.looksAt ops) (frameL ops v L (p1 ++ i :: (p2 ++ post)) a0) (frameL ops v (fun _ => true) p1 a0) := by
        rw [frameL_append, frameL_cons, hLi]
        exact agree_behind ho hLi hc _ _ _ h2 (agree_before ho hdep p1 _ _ h1 (Agree.refl _ _))
      rw [List.append_assoc, List.cons_append]
      refine wpList_agree2 (hsl · · ho) hag ?_ (fun x W' hx => by rw [hx.1]; exact put_defs _ _ _) (hrun0 (S.countP L) W (fun hs => (stage_at hch ho hLi hc hdep hs).1) hE hF)
      rintro u W' ⟨hu, hG, hE'⟩
      show Inv P ops Q E S G fr FF ord a0 (setL L i) _ _
      refine ⟨closed_set hc ho hdep, by rw [hst]; exact hE', p1 ++ i :: p2, post, v, Fs, e, fun j hj hLj => ?_, ?_, fun f hf => hcl f hf _ _ (hF f hf) hG, hcl, fun k hk hLk => ?_, fun j hj hLj => hdet j hj ?_, ?_⟩
      · have hne : j ≠ i := fun h => h4 (by rw [← h]; simp [hj])
        rw [setL_ne hne] at hLj
        exact hpost j hj hLj
      · rw [put_same hag.1.symm hu, List.append_assoc, List.cons_append]
        exact (frame_more ho hLi hc h2 h3 h4 a0 (v i) (fun _ _ => rfl) rfl).symm
      · by_cases hki : k = i
        · subst hki
          exfalso
          rw [hnf] at hk; cases hk
        · rw [setL_ne hki] at hLk
          exact (hfree k (List.contains_iff_mem.1 hk)).2.1 _ _ _ (hFr k hk hLk) hG
      · have : (j == i || L j) = false := hLj
        simp only [Bool.or_eq_false_iff] at this
        exact this.2
      · rcases hfr with h | ⟨k, rest, ok, F, rfl, hLk, r⟩
        · exact .inl h
        · have hne : k ≠ i := fun h => h4 (by rw [← h]; simp)
          exact .inr ⟨k, rest, ok, F, rfl, by rw [setL_ne hne]; exact hLk, r⟩
    · rcases hfr with ⟨rfl, _⟩ | ⟨k, rest, ok, F, rfl, hLk, hk, hFF, hcF, hwait, hany, hwalk⟩
      · simp at hip
      rcases List.mem_cons.1 hip with rfl | hir
      · rw [ho] at hk
        injection hk with hk
        subst hk
        obtain ⟨h1, h2, h3, h4⟩ := ordOk_split hordpp
        have hag : Agree (o.looksAt ops) (frameL ops v L (pre ++ i :: rest) a0) (frameL ops v (fun _ => true) pre a0) := by
          rw [frameL_append, frameL_cons, hLi]
          exact agree_behind ho hLi hc _ _ _ h2 (agree_before ho hdep pre _ _ h1 (Agree.refl _ _))
        refine wpList_agree2 (hsl · · ho) hag ?_ (fun x W' hx => by obtain ⟨u, hu, _⟩ := hx; rw [hu]; exact put_defs _ _ _) (hany (S.countP L) W (fun hs => (stage_at hch ho hLi hc hdep hs).1) hE hF)
        rintro u W' ⟨x, hu, hFx, hG, hE'⟩
        have hnr : rest.Nodup := (List.nodup_cons.1 (List.nodup_append.1 hn).2.1).2
        have hne : ∀ j ∈ rest, j ≠ i := fun j hj h => h4 (h ▸ hj)
        obtain ⟨dets', post', v2, Fs', e2, hv2, hs1, hs2, hd2, hf2⟩ := Walk.part (L := setL L i) (upd v i x) rest _ _ hnr (fun j hj hLj => hpost j (by simp [hj]) (by rwa [setL_ne (hne j hj)] at hLj)) (hwalk x)
        have hrp : ∀ j ∈ rest, j ∉ pre := fun j hj hp => by
          have := (List.nodup_append.1 hn).2.2 j hp j (by simp [hj])
          exact this rfl
        have hdi : dstOf ops i = o.dst := by simp [dstOf, ho]
        have hv3 : ∀ j, L j = true → mix pre v i x v2 j = v j := fun j hj => by
          by_cases hjp : j ∈ pre
          · exact mix_pre hjp
          · have hji : j ≠ i := fun h => by rw [h, hLi] at hj; cases hj
            rw [mix_other hjp hji, hv2 j (by rw [setL_ne hji]; exact hj), upd_ne hji]
        have hv1 : ∀ m : List Nat, (∀ j ∈ m, j ∈ pre) → ∀ b, frameL ops (mix pre v i x v2) (fun _ => true) m b = frameL ops v (fun _ => true) m b := fun m hm b =>
          frameL_congr m b fun j hj => ⟨rfl, fun _ => mix_pre (hm j hj)⟩
        have hv4 : ∀ m : List Nat, (∀ j ∈ m, j ∈ rest) → ∀ b, frameL ops (mix pre v i x v2) (fun _ => true) m b = frameL ops v2 (fun _ => true) m b := fun m hm b =>
          frameL_congr m b fun j hj => ⟨rfl, fun _ => mix_other (hrp j (hm j hj)) (hne j (hm j hj))⟩
        have hlx : ∀ m : List Nat, (∀ j ∈ m, j ∈ rest) → frameL ops (mix pre v i x v2) (fun _ => true) (pre ++ i :: m) a0 = frameL ops v2 (fun _ => true) m ((frameL ops v (fun _ => true) pre a0).put o.dst x) := fun m hm => by
          rw [frameL_append, frameL_cons, if_pos rfl, hv1 pre (fun _ h => h), hv4 m hm, hdi, mix_at h3]
        have hfreeW : ∀ j, fr.contains j = true → L j = true → FF j (v j) W' := fun j hj hLj => (hfree j (List.contains_iff_mem.1 hj)).2.1 _ _ _ (hFr j hj hLj) hG
        show Inv P ops Q E S G fr FF ord a0 (setL L i) _ _
        refine ⟨closed_set hc ho hdep, by rw [hst]; exact hE', pre ++ i :: dets', post', mix pre v i x v2, Fs', by rw [e, e2]; simp, fun j hj hLj => ?_, ?_, fun f hf => ?_, fun f hf => ?_, fun j hj hLj => ?_, fun j hj hLj => ?_, ?_⟩
        · have hjr : j ∈ rest := by rw [e2]; simp [hj]
          rw [setL_ne (hne j hjr)] at hLj
          exact hpost j (by simp [hjr]) hLj
        · rw [put_same hag.1.symm hu, List.append_assoc, List.cons_append, ← e2]
          exact (frame_more ho hLi hc h2 h3 h4 a0 x hv3 (mix_at h3)).symm
        · rcases hs2 f hf with hf | ⟨j, hj, hLj, rfl, _⟩
          · rcases List.mem_cons.1 hf with rfl | hf
            · exact hFx
            · exact hcl f hf _ _ (hF f hf) hG
          · by_cases hji : j = i
            · subst hji
              rw [upd_at, ← hFF hj]; exact hFx
            · rw [setL_ne hji] at hLj
              rw [upd_ne hji]; exact hfreeW j hj hLj
        · rcases hs2 f hf with hf | ⟨_, _, _, _, hcf⟩
          · rcases List.mem_cons.1 hf with rfl | hf
            · exact hcF x
            · exact hcl f hf
          · exact hcf
        · by_cases hji : j = i
          · subst hji
            rw [mix_at h3, ← hFF hj]; exact hFx
          · rw [setL_ne hji] at hLj
            rw [hv3 j hLj]; exact hfreeW j hj hLj
        · have hLj' : (j == i || L j) = false := hLj
          simp only [Bool.or_eq_false_iff, beq_eq_false_iff_ne] at hLj'
          rcases List.mem_append.1 hj with hjp | hjp
          · obtain ⟨p1, p2, oj, e3, hoj, hfj, hdj⟩ := hdet j hjp hLj'.2
            refine ⟨p1, p2 ++ i :: dets', oj, by rw [e3]; simp, hoj, hfj, ?_⟩
            rw [hv1 p1 (fun y hy => by rw [e3]; simp [hy]), mix_pre hjp]
            exact hdj.more fun f hf => hs1 f (by simp [hf])
          · rcases List.mem_cons.1 hjp with h | hjd
            · exact absurd h hLj'.1
            · obtain ⟨p1, p2, oj, e3, hoj, hfj, hdj⟩ := hd2 j hjd hLj
              have hjr : j ∈ rest := by rw [e2]; simp [hjd]
              refine ⟨pre ++ i :: p1, p2, oj, by rw [e3]; simp, hoj, hfj, ?_⟩
              rw [hlx p1 (fun y hy => by rw [e2, e3]; simp [hy]), mix_other (hrp j hjr) hLj'.1]
              exact hdj
        · rw [hlx dets' fun y hy => by rw [e2]; simp [hy]]
          exact hf2
      · have hik : i ≠ k := fun h => by
          have := (List.nodup_cons.1 (List.nodup_append.1 hn).2.1).1
          exact this (h ▸ hir)
        by_cases hfi : fr.contains i = true
        · obtain ⟨hSi, hcFi, hrun⟩ := hfree i (List.contains_iff_mem.1 hfi)
          refine wpList_agree2 (hsl · · ho) (Agree.refl _ _) ?_ (fun x W' hx => by obtain ⟨u, hu, _⟩ := hx; rw [hu]; exact put_defs _ _ _) (hrun o ho (frameL ops v L (pre ++ k :: rest) a0) (S.countP L) W hE)
          rintro u W' ⟨x, hu, hFx, hG, hE'⟩
          obtain ⟨r1, r2, rfl⟩ := List.append_of_mem hir
          have hord' := hordpp
          rw [show pre ++ k :: (r1 ++ i :: r2) = (pre ++ k :: r1) ++ i :: r2 by simp] at hord'
          obtain ⟨h1, h2, h3, h4⟩ := ordOk_split hord'
          have hip' : i ∉ pre := fun h => h3 (by simp [h])
          have hvp : ∀ m : List Nat, (∀ j ∈ m, j ∈ pre) → ∀ b, frameL ops (upd v i x) (fun _ => true) m b = frameL ops v (fun _ => true) m b := fun m hm b =>
            frameL_congr m b fun j hj => ⟨rfl, fun _ => upd_ne fun h => hip' (h ▸ hm j hj)⟩
          rw [hSi] at hst
          show Inv P ops Q E S G fr FF ord a0 (setL L i) _ _
          refine ⟨closed_set hc ho hdep, by rw [hst]; exact hE', pre, k :: (r1 ++ i :: r2), upd v i x, Fs, e, fun j hj hLj => ?_, ?_, fun f hf => hcl f hf _ _ (hF f hf) hG, hcl, fun j hj hLj => ?_, fun j hj hLj => ?_, ?_⟩
          · by_cases hji : j = i
            · rw [hji]; exact hfi
            · rw [setL_ne hji] at hLj
              exact hpost j hj hLj
          · rw [hu]
            have hm := frame_more (v := v) (v' := upd v i x) ho hLi hc h2 h3 h4 a0 x (fun j hj => upd_ne fun h => by rw [h, hLi] at hj; cases hj) (upd_at _ _ _)
            rw [show (pre ++ k :: r1) ++ i :: r2 = pre ++ k :: (r1 ++ i :: r2) by simp] at hm
            exact hm.symm
          · by_cases hji : j = i
            · rw [hji, upd_at]; exact hFx
            · rw [setL_ne hji] at hLj
              rw [upd_ne hji]
              exact (hfree j (List.contains_iff_mem.1 hj)).2.1 _ _ _ (hFr j hj hLj) hG
          · have hLj' : (j == i || L j) = false := hLj
            simp only [Bool.or_eq_false_iff, beq_eq_false_iff_ne] at hLj'
            obtain ⟨p1, p2, oj, e3, hoj, hfj, hdj⟩ := hdet j hj hLj'.2
            refine ⟨p1, p2, oj, e3, hoj, hfj, ?_⟩
            rw [hvp p1 (fun y hy => by rw [e3]; simp [hy]), upd_ne hLj'.1]
            exact hdj
          · rw [hvp pre fun _ h => h]
            exact .inr ⟨k, r1 ++ i :: r2, ok, F, rfl, by rw [setL_ne (Ne.symm hik)]; exact hLk, hk, hFF, hcF, hwait, hany, hwalk⟩
        · refine (waitAll_spec ho hdep (by simpa using hfi) rest [k] hwait (fun j hj => by simp at hj; rw [hj]; exact hLk) (fun j hj hfj => ?_) hir).elim
          cases hLj : L j with
          | false => rfl
          | true => have := hpost j (by simp [hj]) hLj; rw [hfj] at this; cases this
end

end Go.Proofs.YtebeekjcepjcnaaGreatDoor
