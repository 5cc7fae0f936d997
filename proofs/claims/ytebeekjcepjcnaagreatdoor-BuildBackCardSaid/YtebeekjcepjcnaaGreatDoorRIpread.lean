/-
  ip.Read: the header of a packet, where its data is, and the first error.
-/
import Derived.Test.YtebeekjcepjcnaaGreatDoorRIpre
namespace Go.Proofs.YtebeekjcepjcnaaGreatDoor
open Go.RowKit
/-- ip.Read: its boxes, when the tests before k are done. -/
structure IpSt (w : World) (A : Option Addr) (n cap : Nat) (xs : List Int) (k : Nat) (W : World) : Prop where
  below : Below w.heap.size w W
  size : w.heap.size + 5 ≤ W.heap.size
  b : Blk W w.heap.size 26 #[.slice A n cap]
  r : Blk W (w.heap.size + 1) 37 #[.int .u8 0, .int .u16 0, .bool false, .bool false, .int .i64 0, .int .u8 0, .int .u8 0, .int .u32 0, .int .u32 0, .slice none 0 0]
  h : ∃ H, Blk W (w.heap.size + 2) 37 H ∧ H.size = 10 ∧ (7 ≤ k → ∃ v, H = ipN10 xs v ∧ Own W (w.heap.size + 5) v (ipHdr xs).opts)
  s : ∃ s, Blk W (w.heap.size + 3) 3 #[s] ∧ (3 ≤ k → s = .int .i64 (ipSize xs))
  t : ∃ t, Blk W (w.heap.size + 4) 3 #[t] ∧ (4 ≤ k → t = .int .i64 (ipTotal xs))
section
variable {w W W' : World} {A : Option Addr} {n cap : Nat} {xs : List Int} {k : Nat}
theorem IpSt.grow (h : IpSt w A n cap xs k W) (hb : Below W.heap.size W W') : IpSt w A n cap xs k W' := by
  have hz := h.size
  obtain ⟨H, h1, h2, h3⟩ := h.h
  obtain ⟨s, s1, s2⟩ := h.s
  obtain ⟨t, t1, t2⟩ := h.t
  refine ⟨h.below.trans (hb.mono (by omega)), Nat.le_trans hz hb.size, h.b.below hb h.b.lt, h.r.below hb h.r.lt, ⟨H, h1.below hb h1.lt, h2, fun hk => ?_⟩, ⟨s, s1.below hb s1.lt, s2⟩, ⟨t, t1.below hb t1.lt, t2⟩⟩
  obtain ⟨v, e, ho⟩ := h3 hk
  exact ⟨v, e, ho.below hb (Nat.le_refl _)⟩
theorem IpSt.next (h : IpSt w A n cap xs k W) (hk : k ≠ 2 ∧ k ≠ 3 ∧ k ≠ 6) : IpSt w A n cap xs (k + 1) W :=
  ⟨h.below, h.size, h.b, h.r, by
    obtain ⟨H, h1, h2, h3⟩ := h.h
    exact ⟨H, h1, h2, fun hk2 => h3 (by omega)⟩, by
    obtain ⟨s, s1, s2⟩ := h.s
    exact ⟨s, s1, fun hk2 => s2 (by omega)⟩, by
    obtain ⟨t, t1, t2⟩ := h.t
    exact ⟨t, t1, fun hk2 => t2 (by omega)⟩⟩
theorem IpSt.setS (h : IpSt w A n cap xs 2 W) (hs : Blk W' (w.heap.size + 3) 3 #[.int .i64 (ipSize xs)]) (hg : W.grownBy W' (some (w.heap.size + 3))) : IpSt w A n cap xs 3 W' := by
  have hz := h.size
  obtain ⟨H, h1, h2, h3⟩ := h.h
  obtain ⟨t, t1, t2⟩ := h.t
  exact ⟨h.below.grown hg (by omega) (fun g e => by injection e with e; omega), Nat.le_trans hz hg.size, h.b.grown hg (by simp), h.r.grown hg (by simp), ⟨H, h1.grown hg (by simp), h2, fun hk => by omega⟩, ⟨_, hs, fun _ => rfl⟩, ⟨t, t1.grown hg (by simp), fun hk => by omega⟩⟩
theorem IpSt.setT (h : IpSt w A n cap xs 3 W) (ht : Blk W' (w.heap.size + 4) 3 #[.int .i64 (ipTotal xs)]) (hg : W.grownBy W' (some (w.heap.size + 4))) : IpSt w A n cap xs 4 W' := by
  have hz := h.size
  obtain ⟨H, h1, h2, h3⟩ := h.h
  obtain ⟨s, s1, s2⟩ := h.s
  exact ⟨h.below.grown hg (by omega) (fun g e => by injection e with e; omega), Nat.le_trans hz hg.size, h.b.grown hg (by simp), h.r.grown hg (by simp), ⟨H, h1.grown hg (by simp), h2, fun hk => by omega⟩, ⟨s, s1.grown hg (by simp), fun _ => s2 (by omega)⟩, ⟨_, ht, fun _ => rfl⟩⟩
theorem IpSt.setH (h : IpSt w A n cap xs 6 W) {v : Value} (hh : Blk W' (w.heap.size + 2) 37 (ipN10 xs v)) (ho : Own W' W.heap.size v (ipHdr xs).opts) (hg : W.grownBy W' (some (w.heap.size + 2))) : IpSt w A n cap xs 7 W' := by
  have hz := h.size
  obtain ⟨s, s1, s2⟩ := h.s
  obtain ⟨t, t1, t2⟩ := h.t
  exact ⟨h.below.grown hg (by omega) (fun g e => by injection e with e; omega), Nat.le_trans hz hg.size, h.b.grown hg (by simp), h.r.grown hg (by simp), ⟨_, hh, rfl, fun _ => ⟨v, rfl, ho.base_le hz⟩⟩, ⟨s, s1.grown hg (by simp), fun _ => s2 (by omega)⟩, ⟨t, t1.grown hg (by simp), fun _ => t2 (by omega)⟩⟩
end

theorem ipN10_size (xs : List Int) (v : Value) : (ipN10 xs v).size = 10 := rfl
theorem ipN10_one {xs : List Int} {v : Value} {W : World} {b : Nat} {l : List Int} (h : Own W b v l) : (ipN10 xs v).all (·.oneCell') = true := by
  obtain ⟨A, c, rfl, _⟩ := h.open_
  simp [ipN10, Value.oneCell']
theorem St.rowSame {w W : World} {B g : Nat} {t : TypeId} {cs : Array Value} {L : List (Nat × TypeId × Array Value)} (h : St w B L W) (hB : B ≤ g) (hg : Blk W g t cs) : St w B L (W.setRow g cs) :=
  ⟨below_setRow h.1 hB cs, by simpa using h.2.1, fun x hx => by
    by_cases e : x.1 = g
    · have h1 := h.2.2 x hx
      have h2 : Blk W g t cs := hg
      rw [e] at h1
      have h3 := h1.symm.trans h2
      simp only [Option.some.injEq, Obj.cells.injEq, and_true] at h3
      rw [e, h3.1, h3.2]
      exact setRow_heap _ _ _ _ _ _ h2
    · exact (setRow_other _ _ _ _ e).trans (h.2.2 x hx)⟩
theorem Own.setRowFar {W : World} {b g : Nat} {v : Value} {xs : List Int} {cs : Array Value} (h : Own W b v xs) (hg : g < b) : Own (W.setRow g cs) b v xs :=
  h.grown (grown_setRow W g cs) (by
    cases hv : v.ownBlock with
    | none => exact .inl rfl
    | some r =>
      refine .inr (fun e => ?_)
      have := (h.lt hv).1
      injection e with e
      omega)
theorem results_cell_tmp3 {P : Program} {fn : Func} {p q r s : Tmp} {ty : TypeId} (h : fn.results = #[.cell p ty, .tmp q, .tmp r, .tmp s]) (tmps : Array Value) (w : World) (g : Nat) (t : TypeId) (cs : Array Value) (fr : Nat × Nat) (d : TypeDesc)
    (hp : tmps.getD p undef = .pointer (some ⟨g, 0, none⟩)) (hg : w.heap[g]? = some (.cells cs t fr))
    (hu : P.underlying ty = some d) (hd : (match d with | .struct _ | .array _ _ => true | _ => false) = true) (hi : (P.info? ty).map (·.size) = some cs.size) :
    (results fn tmps).run P w = .ok (.tuple #[.agg cs, tmps.getD q undef, tmps.getD r undef, tmps.getD s undef]) w := by
  have hp' : tmps[p]?.getD undef = .pointer (some ⟨g, 0, none⟩) := by simpa using hp
  simp [results, h, hp', asAddr, run_loadVar_row w g t ty cs fr d hg hu hd hi]
def ipFn : Nat → Nat
  | 0 => 50 | 1 => 51 | 2 => 52 | 3 => 53 | 4 => 55 | 5 => 57 | _ => 58
def ipCap (g : Nat) : Nat → Array Value
  | 0 => #[.pointer (some ⟨g, 0, none⟩)] | 1 => #[.pointer (some ⟨g, 0, none⟩)] | 2 => #[.pointer (some ⟨g, 0, none⟩), .pointer (some ⟨g + 3, 0, none⟩)]
  | 3 => #[.pointer (some ⟨g, 0, none⟩), .pointer (some ⟨g + 4, 0, none⟩), .pointer (some ⟨g + 3, 0, none⟩)] | 4 => #[.pointer (some ⟨g, 0, none⟩), .pointer (some ⟨g + 3, 0, none⟩)] | 5 => #[.pointer (some ⟨g, 0, none⟩)]
  | _ => #[.pointer (some ⟨g, 0, none⟩), .pointer (some ⟨g + 3, 0, none⟩), .pointer (some ⟨g + 2, 0, none⟩), .pointer (some ⟨g + 4, 0, none⟩)]
/-- Test number k. -/
theorem ipFault_any (A : Option Addr) (cap n k : Nat) (xs : List Int) (w W : World) (hk : k < 7) (hn : xs.length = n) (hl : n ≤ 1000000) (hcap : n ≤ cap) (hB : Byt xs) (hr : Rd w w.heap.size A .u8 xs) (hS : IpSt w A n cap xs k W) (hT : ∀ j, j < k → ipT xs j = false) :
    Calls Tryz.prog (ipFn k) (ipCap w.heap.size k) W fun e W' => e = .returned (.bool (ipT xs k)) ∧ IpSt w A n cap xs (k + 1) W' ∧ ∃ r, r < w.heap.size + 5 ∧ W.grownBy W' (some r) := by
  have hz := hS.size
  have hr2 : Rd W W.heap.size A .u8 xs := (hr.below hS.below (Nat.le_refl _)).more (by omega)
  have e0 : 0 < k → 20 ≤ n := fun h => by have := hT 0 h; simp only [ipT, decide_eq_false_iff_not] at this; omega
  have e2 : 2 < k → 20 ≤ ipSize xs ∧ ipSize xs ≤ n := fun h => by have := hT 2 h; simp only [ipT, Bool.or_eq_false_iff, decide_eq_false_iff_not] at this; omega
  have e3 : 3 < k → ipSize xs ≤ ipTotal xs ∧ ipTotal xs ≤ n := fun h => by have := hT 3 h; simp only [ipT, Bool.or_eq_false_iff, decide_eq_false_iff_not] at this; omega
  obtain ⟨H, h1, h2, h3⟩ := hS.h
  obtain ⟨s, s1, s2⟩ := hS.s
  obtain ⟨t, t1, t2⟩ := hS.t
  rcases (show k = 0 ∨ k = 1 ∨ k = 2 ∨ k = 3 ∨ k = 4 ∨ k = 5 ∨ k = 6 by omega) with rfl | rfl | rfl | rfl | rfl | rfl | rfl
  · exact (ipRead1_any A cap n xs W _ hn hS.b).mono fun e W' ⟨he, hb⟩ => ⟨he, (hS.grow hb).next (by decide), w.heap.size, by omega, grown_of_below hb⟩
  · exact (ipRead2_any A cap n xs W _ hn (by have := e0 (by omega); omega) hB hS.b hr2).mono fun e W' ⟨he, hb⟩ => ⟨he, (hS.grow hb).next (by decide), w.heap.size, by omega, grown_of_below hb⟩
  · exact (ipRead3_any A cap n xs W _ _ hn (by have := e0 (by omega); omega) hB hS.b s s1 (by omega) hr2).mono fun e W' ⟨he, hb, hg⟩ => ⟨he, hS.setS hb hg, _, by omega, hg⟩
  · obtain rfl := s2 (by omega)
    exact (ipRead4_any A cap n xs W _ _ _ hn (by have := e0 (by omega); omega) hl hB hS.b t t1 s1 (by omega) (by omega) hr2).mono fun e W' ⟨he, hb, hg⟩ => ⟨he, hS.setT hb hg, _, by omega, hg⟩
  · obtain rfl := s2 (by omega)
    exact (ipRead5_any A cap n xs W _ _ _ hn hl hB hS.b rfl s1 (e2 (by omega)).2 hcap hr2).mono fun e W' ⟨he, hb⟩ => ⟨he, (hS.grow hb).next (by decide), w.heap.size, by omega, grown_of_below hb⟩
  · exact (ipRead6_any A cap n xs W _ hn (by have := e0 (by omega); omega) hl hB hS.b hr2).mono fun e W' ⟨he, hb⟩ => ⟨he, (hS.grow hb).next (by decide), w.heap.size, by omega, grown_of_below hb⟩
  · obtain rfl := s2 (by omega)
    obtain rfl := t2 (by omega)
    exact (ipRead7_any A cap n xs W _ _ _ _ _ _ hn hl hB hS.b rfl s1 rfl t1 H h2 h1 (by omega) (by omega) (by omega) (e2 (by omega)).1 (e3 (by omega)).1 (e3 (by omega)).2 hcap hr2).mono fun e W' ⟨he, v, hv, ho, hg⟩ => ⟨he, hS.setH hv ho hg, _, by omega, hg⟩

def ipFault (g k : Nat) : Value := .agg #[.func (.func (ipFn k)) #[] (ipCap g k), .int .i64 (50 + k)]
def ipArr (g : Nat) : Array Value := #[.func (.func 50) #[] (ipCap g 0), .int .i64 50, .func (.func 51) #[] (ipCap g 1), .int .i64 51, .func (.func 52) #[] (ipCap g 2), .int .i64 52, .func (.func 53) #[] (ipCap g 3), .int .i64 53,
  .func (.func 55) #[] (ipCap g 4), .int .i64 54, .func (.func 57) #[] (ipCap g 5), .int .i64 55, .func (.func 58) #[] (ipCap g 6), .int .i64 56]
set_option maxRecDepth 100000 in
theorem ipArr_at (g k : Nat) (hk : k < 7) (W : World) : (Instr.index 132 (.agg (ipArr g)) (.int .i64 k)).run Tryz.prog W = .ok (ipFault g k) W := by
  rcases (show k = 0 ∨ k = 1 ∨ k = 2 ∨ k = 3 ∨ k = 4 ∨ k = 5 ∨ k = 6 by omega) with rfl | rfl | rfl | rfl | rfl | rfl | rfl <;> kernel_rfl
set_option maxRecDepth 100000 in
theorem callFunc_ip (k : Nat) (args : Array Value) (W : World) : (callFunc (ipFn k) args).run Tryz.prog W = .ok (.enter (ipFn k) args) W := by
  unfold ipFn
  split <;> rfl
set_option maxRecDepth 100000 in
theorem wp_ipStart {w : World} {A : Option Addr} {n cap : Nat} {xs : List Int} {c : Code} {Q : Exit → Act → World → Prop} {a : Act} (h : ∀ W5, IpSt w A n cap xs 0 W5 → c.wp Tryz.prog Q a W5) :
    c.wp Tryz.prog Q a (((((w.alloc (.cells #[.slice A n cap] 26)).alloc (.cells #[.int .u8 0, .int .u16 0, .bool false, .bool false, .int .i64 0, .int .u8 0, .int .u8 0, .int .u32 0, .int .u32 0, .slice none 0 0] 37)).alloc
      (.cells #[.int .u8 0, .int .u16 0, .bool false, .bool false, .int .i64 0, .int .u8 0, .int .u8 0, .int .u32 0, .int .u32 0, .slice none 0 0] 37)).alloc (.cells #[.int .i64 0] 3)).alloc (.cells #[.int .i64 0] 3)) :=
  h _ ⟨(((((Below.refl _ _).alloc (Nat.le_refl _) _).alloc (by simp) _).alloc (by simp; omega) _).alloc (by simp; omega) _).alloc (by simp; omega) _, by simp,
    ((((Blk.new _ _ _).alloc _).alloc _).alloc _).alloc _, (((Blk.next (by simp) _ _).alloc _).alloc _).alloc _, ⟨_, ((Blk.next (by simp) _ _).alloc _).alloc _, rfl, fun h => by omega⟩, ⟨_, (Blk.next (by simp) _ _).alloc _, fun h => by omega⟩, ⟨_, Blk.next (by simp) _ _, fun h => by omega⟩⟩
def ipOut (xs : List Int) (v : Value) : Value := .tuple #[.agg (if ipN xs = 7 then ipN10 xs v else #[.int .u8 0, .int .u16 0, .bool false, .bool false, .int .i64 0, .int .u8 0, .int .u8 0, .int .u32 0, .int .u32 0, .slice none 0 0]), .int .i64 (if ipN xs = 7 then ipSize xs else 0), .int .i64 (if ipN xs = 7 then ipTotal xs else 0), .int .i64 (ipE xs)]
def IpRel (w : World) (A : Option Addr) (n cap : Nat) (xs : List Int) (i : Value) (W : World) : Prop := ∃ k : Nat, k ≤ 7 ∧ i = .int .i64 k ∧ (∀ j, j < k → ipT xs j = false) ∧ IpSt w A n cap xs k W
set_option maxRecDepth 100000 in
set_option maxHeartbeats 4000000 in
theorem ipRead_any (A : Option Addr) (cap n : Nat) (xs : List Int) (w : World) (hn : xs.length = n) (hl : n ≤ 1000000) (hcap : n ≤ cap) (hB : Byt xs) (hr : Rd w w.heap.size A .u8 xs) :
    Calls Tryz.prog 23 #[.slice A n cap] w fun e W' => ∃ v, e = .returned (ipOut xs v) ∧ (ipN xs = 7 → Own W' w.heap.size v (ipHdr xs).opts) ∧ Below w.heap.size w W' := by
  go_enter Tryz.func23, Tryz.ntmps23
  go_upto_region 3 with (first | ((with_reducible refine look_store ?_); refine wpList_store_new rfl _ _ _ rfl _ _ rfl rfl _ _ (by first | (simp only [World.size_alloc] <;> omega) | rfl | omega) (by kernel_rfl) (by simp) (by simp [Value.oneCell']) ?_) | fail)
  refine wp_ipStart (xs := xs) ?_
  intro W5 hS
  simp only [Nat.add_assoc, Nat.reduceAdd]
  have HIx := Lib.hid (fun k hk (W : World) => ipArr_at w.heap.size k hk W)
  unfold ipArr at HIx
  have HS := Lib.hid hS
  clear hS
  unfold ipCap at HIx
  go_wp2_with fail
  go_loopw [26] (IpRel w A n cap xs) (fun i _ => 7 - (intOf i).toNat)
  case atStart => exact ⟨0, by omega, rfl, fun j hj => by omega, HS.out⟩
  case round =>
    obtain ⟨k, hk, rfl, hT, hS⟩ := hrel
    have HT := Lib.hid hT
    have HS := Lib.hid hS
    clear hT hS
    by_cases hlt : k < 7
    · have hlt2 : (k : Int) < 7 := by omega
      have hix := HIx.out k hlt
      unfold ipFault at hix
      go_upto_region 6 with (first | ((with_reducible refine look_store ?_); refine wpList_store_new rfl _ _ _ rfl _ _ rfl rfl _ _ rfl (by kernel_rfl) (by simp) (by simp [Value.oneCell']) ?_) | fail)
      try dsimp only [Act.put]
      refine wp_name1 ?_
      intro wx hbx hsx bx
      have hx0 := bx.cell 0
      have hx1 := bx.cell 1
      have HS2 := Lib.hid (HS.out.grow hbx)
      have hcf := callFunc_ip k
      have H := Lib.hid (ipFault_any A cap n k xs w wx hlt hn hl hcap hB hr HS2.out HT.out)
      clear hix hsx
      rcases hb : ipT xs k with _ | _
      · rw [hb] at H
        go_wp2_with fail
        refine H.out.mono ?_
        rintro e w2 ⟨rfl, hS3, _⟩
        have HS3 := Lib.hid hS3
        have HT2 := Lib.hid (show ∀ j, j < k + 1 → ipT xs j = false from fun j hj => by
          rcases Nat.lt_or_ge j k with h | h
          · exact HT.out j h
          · rw [show j = k by omega]; exact hb)
        clear hS3
        go_wp2_with fail
        go_roundw
        case rel => exact ⟨k + 1, by omega, by go_num, HT2.out, HS3.out⟩
        case measure => simp [intOf]; omega
      · rw [hb] at H
        have hN : ipN xs = k := firstB_eq hlt HT.out hb
        have Hout := Lib.hid (show ∀ v, ipOut xs v = .tuple #[.agg #[.int .u8 0, .int .u16 0, .bool false, .bool false, .int .i64 0, .int .u8 0, .int .u8 0, .int .u32 0, .int .u32 0, .slice none 0 0], .int .i64 0, .int .i64 0, .int .i64 (50 + k)] from fun v => by
          unfold ipOut ipE
          rw [if_neg (by omega), if_neg (by omega), if_neg (by omega), if_pos (by omega), hN])
        have HN := Lib.hid hN
        clear hb hN
        go_wp2_with fail
        refine H.out.mono ?_
        rintro e w2 ⟨rfl, hS3, r, hr5, hgr⟩
        have hwr := HS.out.size
        have bx2 := bx.grown hgr (by simp; omega)
        have hr1 := hS3.r
        have hbw := hS3.below
        have hsz := hS3.size
        clear hx0 hx1 hS3 hgr hcf hbx HIx
        go_upto_region 7 with (fail)
        have hSt := ((St.nil hbw (by omega)).cons hr1).cons bx2
        clear bx2 hr1 hbw bx
        refine wp_region_walk0 (by kernel_rfl) (fun _ W => St w w.heap.size _ W) [] GTop [0, 1, 2, 3, 4, 5, 6] (by kernel_rfl) hSt.drew ?_
        iterate 7
          apply Walk.one rfl rfl rfl
          case hrun =>
            intro c W hE hF
            have hc0 := (hE.get 0 rfl).cell 1
            have hb1 := hE.get 1 rfl
            go_wp2_with (first | ((with_reducible refine look_store ?_); refine wpList_store_row rfl _ _ _ rfl _ _ rfl rfl _ _ hb1 (by kernel_rfl) (by simp) (by simp [Value.oneCell']) ?_) | fail)
            first
              | exact TextPost.mk ⟨GTop.mk, hE⟩
              | exact TextPost.mk ⟨GTop.mk, hE.rowSame (by omega) hb1⟩
          case hv => rfl
        refine Walk.done (fun W hE hF => ?_)
        have hb1 := hE.get 1 rfl
        have hbw := hE.1
        clear hE hF hSt
        go_wp2_with fail
        exact bodyPost_ret (results_cell_tmp3 Tryz.results23 _ _ _ _ _ _ _ rfl hb1 Tryz.underlying37 rfl (by kernel_rfl)) rfl ⟨undef, by rw [Hout.out]; rfl, fun h => by have := HN.out; omega, hbw⟩
    · obtain rfl : k = 7 := by omega
      have hN : ipN xs = 7 := firstB_all HT.out
      have Hout := Lib.hid (show ∀ v, ipOut xs v = .tuple #[.agg (ipN10 xs v), .int .i64 (ipSize xs), .int .i64 (ipTotal xs), .int .i64 0] from fun v => by
        unfold ipOut ipE
        rw [if_pos hN, if_pos hN, if_pos hN, if_neg (by omega)])
      have HN := Lib.hid hN
      clear hN HIx
      obtain ⟨H, h1, h2, h3⟩ := HS.out.h
      obtain ⟨s, s1, s2⟩ := HS.out.s
      obtain ⟨t, t1, t2⟩ := HS.out.t
      obtain rfl := s2 (by omega)
      obtain rfl := t2 (by omega)
      obtain ⟨v, rfl, ho⟩ := h3 (by omega)
      have hr1 := HS.out.r
      have hbw := HS.out.below
      have hsz := HS.out.size
      clear h2 h3 s2 t2
      go_upto_region 9 with (fail)
      have hSt : St1 w w.heap.size [(w.heap.size + 2, 37, ipN10 xs v), (w.heap.size + 3, 3, #[.int .i64 (ipSize xs)]), (w.heap.size + 4, 3, #[.int .i64 (ipTotal xs)])] (w.heap.size + 1) 37 _ (ipN10 xs v) 0 wr := ⟨((St.nil hbw (by omega)).cons t1 |>.cons s1).cons h1, by omega, by simp, hr1⟩
      have HO := Lib.hid (show Own wr (w.heap.size + 5) v (ipHdr xs).opts from ho)
      clear h1 s1 t1 hr1 hbw ho
      refine wp_region_walk (by kernel_rfl) (fun c W => St1 w w.heap.size _ _ 37 _ (ipN10 xs v) c W ∧ Own W (w.heap.size + 5) v (ipHdr xs).opts) [3] GTop [] (fun _ _ _ => True) [0, 1, 2, 3, 4, 5, 6] (by kernel_rfl) (fun _ h => by simp at h) ⟨hSt.drew, HO.out.drew⟩ ?_
      iterate 3
        apply Walk.one rfl rfl rfl
        case hrun =>
          intro c W hE hF
          have hh := hE.1.1.get 0 rfl
          have hc1 := (hE.1.1.get 1 rfl).cell 0
          have hc2 := (hE.1.1.get 2 rfl).cell 0
          go_wp2_with (first | ((with_reducible refine look_load ?_); refine wpList_load_row rfl _ _ rfl _ rfl _ _ _ _ hh Tryz.underlying37 rfl (by rw [ipN10_size]; kernel_rfl) ?_) | fail)
          exact TextPost.mk ⟨GTop.mk, hE⟩
        case hv => rfl
      apply Walk.keep 0 rfl rfl rfl rfl
      case hrun =>
        intro W2 hE hF
        have hbR := hE.1.2.2.2
        refine wpList_store_row rfl _ _ _ rfl _ _ rfl rfl _ _ hbR (by rw [ipN10_size]; kernel_rfl) (by rw [ipN10_size]; rfl) (ipN10_one hE.2) ?_
        go_wp2_with fail
        exact TextPost.mk ⟨GTop.mk, hE.1.put, hE.2.setRowFar (by omega)⟩
      case hv => rfl
      iterate 3
        apply Walk.one rfl rfl rfl
        case hrun =>
          intro c W hE hF
          go_wp2_with fail
          exact TextPost.mk ⟨GTop.mk, hE⟩
        case hv => rfl
      refine Walk.done (fun W hE hF => ?_)
      have hb1 := hE.1.2.2.2
      have hbw := hE.1.1.1
      have ho := hE.2
      clear hE hF hSt
      go_wp2_with fail
      exact bodyPost_ret (results_cell_tmp3 Tryz.results23 _ _ _ _ _ _ _ rfl hb1 Tryz.underlying37 rfl (by rw [if_neg (by decide), ipN10_size]; kernel_rfl)) rfl ⟨v, by rw [Hout.out]; rfl, fun _ => ho.base_le (by omega), hbw⟩
end Go.Proofs.YtebeekjcepjcnaaGreatDoor
