/-
  opts.options: what its iterator yields.
-/
import Derived.RegionIn
import Derived.Test.YtebeekjcepjcnaaGreatDoorROptsb
namespace Go.Proofs.YtebeekjcepjcnaaGreatDoor
open Go.RowKit Go.Shelf
attribute [local go_sem] Oper.semAt_some
theorem optsY_more : ∀ (f : Nat) (r : List Int), r.length ≤ f → ∀ g, r.length ≤ g → optsY f r = optsY g r
  | 0, r, hf, g, _ => by
    have : r = [] := List.eq_nil_of_length_eq_zero (by omega)
    subst this
    cases g <;> simp [optsY]
  | f + 1, r, hf, 0, hg => by
    have : r = [] := List.eq_nil_of_length_eq_zero (by omega)
    subst this
    simp [optsY]
  | f + 1, r, hf, g + 1, hg => by
    unfold optsY
    by_cases h0 : r.length = 0
    · rw [if_pos h0, if_pos h0]
    rw [if_neg h0, if_neg h0]
    by_cases h1 : r.getD 0 0 = 0
    · rw [if_pos h1, if_pos h1]
    rw [if_neg h1, if_neg h1]
    by_cases h2 : r.getD 0 0 = 1
    · rw [if_pos h2, if_pos h2, optsY_more f (r.drop 1) (by simp; omega) g (by simp; omega)]
    rw [if_neg h2, if_neg h2]
    by_cases h3 : r.length < 2
    · rw [if_pos h3, if_pos h3]
    rw [if_neg h3, if_neg h3]
    by_cases h4 : r.getD 1 0 < 2
    · rw [if_pos h4, if_pos h4]
    rw [if_neg h4, if_neg h4]
    by_cases h5 : (r.length : Int) < r.getD 1 0
    · rw [if_pos h5, if_pos h5]
    rw [if_neg h5, if_neg h5, optsY_more f (r.drop (r.getD 1 0).toNat) (by rw [List.length_drop]; omega) g (by rw [List.length_drop]; omega)]
theorem optsY_step (r : List Int) (h : 0 < r.length) : optsY r.length r =
    if r.getD 0 0 = 0 then (if r.any (fun x => decide (0 < x)) then [(0, 62)] else [])
    else if r.getD 0 0 = 1 then (1, 0) :: optsY (r.drop 1).length (r.drop 1)
    else if r.length < 2 then [(0, 60)]
    else if r.getD 1 0 < 2 then [(0, 61)]
    else if (r.length : Int) < r.getD 1 0 then [(0, 60)]
    else if optRight (r.getD 0 0) ((r.take (r.getD 1 0).toNat).drop 2) then (r.getD 0 0, 0) :: optsY (r.drop (r.getD 1 0).toNat).length (r.drop (r.getD 1 0).toNat)
    else [(r.getD 0 0, 61)] := by
  obtain ⟨f, hf⟩ : ∃ f, r.length = f + 1 := ⟨r.length - 1, by omega⟩
  conv => lhs; rw [hf]; unfold optsY
  rw [if_neg (by omega)]
  by_cases h1 : r.getD 0 0 = 0
  · rw [if_pos h1, if_pos h1]
  rw [if_neg h1, if_neg h1]
  by_cases h2 : r.getD 0 0 = 1
  · rw [if_pos h2, if_pos h2, optsY_more f (r.drop 1) (by simp; omega) _ (Nat.le_refl _)]
  rw [if_neg h2, if_neg h2]
  by_cases h3 : r.length < 2
  · rw [if_pos h3, if_pos h3]
  rw [if_neg h3, if_neg h3]
  by_cases h4 : r.getD 1 0 < 2
  · rw [if_pos h4, if_pos h4]
  rw [if_neg h4, if_neg h4]
  by_cases h5 : (r.length : Int) < r.getD 1 0
  · rw [if_pos h5, if_pos h5]
  rw [if_neg h5, if_neg h5, optsY_more f (r.drop (r.getD 1 0).toNat) (by rw [List.length_drop]; omega) _ (Nat.le_refl _)]
theorem optsY_len : ∀ (f : Nat) (r : List Int), (optsY f r).length ≤ f
  | 0, _ => by simp [optsY]
  | f + 1, r => by
    unfold optsY
    split
    · simp
    · split
      · split <;> simp
      · split
        · have := optsY_len f (r.drop 1); simp only [List.length_cons]; omega
        · split
          · simp
          · split
            · simp
            · split
              · simp
              · split
                · have := optsY_len f (r.drop (r.getD 1 0).toNat); simp only [List.length_cons]; omega
                · simp
structure OptY where
  k : Int
  A : Option Addr
  n : Nat
  c : Nat
  e : Int
def OptY.enc (x : OptY) : Array Value := #[.agg #[.int .u8 x.k, .slice x.A x.n x.c], .int .i64 x.e]
def OptY.key (x : OptY) : Int × Int := (x.k, x.e)
def boxLen (W : World) (Bs : Nat) : Nat := match W.cell? ⟨Bs, 0, none⟩ with
  | some (.slice _ n _) => n
  | _ => 0
theorem boxLen_of {W : World} {Bs : Nat} {t : TypeId} {A : Option Addr} {n c : Nat} (h : Blk W Bs t #[.slice A n c]) : boxLen W Bs = n := by
  unfold boxLen; rw [h.cell 0]; rfl
/-- What is left: behind p bytes. -/
def OptRel (J : List OptY → World → Prop) (n₀ Bs n : Nat) (b : List Int) (_ : Value) (W : World) : Prop :=
  ∃ pre p A c, J pre W ∧ p ≤ n ∧ Blk W Bs 26 #[.slice A (n - p) c] ∧ Rd W n₀ A .u8 (b.drop p) ∧ n - p ≤ c ∧ pre.map OptY.key ++ optsY (n - p) (b.drop p) = optsY n b ∧ n₀ ≤ W.heap.size
theorem optsY_keys (l : List (Int × Int)) : ∃ t : List OptY, t.map OptY.key = l := ⟨l.map fun x => ⟨x.1, none, 0, 0, x.2⟩, by simp [OptY.key, Function.comp_def]⟩
theorem keys_more {pre : List OptY} {x : OptY} {l m : List (Int × Int)} (h : pre.map OptY.key ++ (x.key :: l) = m) : ∃ t : List OptY, ((pre ++ [x]) ++ t).map OptY.key = m := by
  obtain ⟨t, ht⟩ := optsY_keys l
  exact ⟨t, by rw [List.map_append, List.map_append, ht, ← h]; simp⟩
theorem OptRel.next {J : List OptY → World → Prop} {n₀ Bs n p q c s k c2 : Nat} {b : List Int} {pre : List OptY} {x : OptY} {A A2 : Option Addr} {W3 : World} (v : Value) (hJ : BearsBox Bs J) (hJ3 : J (pre ++ [x]) W3) (hp : p ≤ n) (hn : b.length = n) (hq : q = n - p) (hs : 1 ≤ s) (hsq : s ≤ q) (hbx : Blk W3 Bs 26 #[.slice A q c])
    (hA2 : s < q → ∀ b off, A = some ⟨b, off, none⟩ → A2 = some ⟨b, off + s, none⟩) (hrd : Rd W3 n₀ A .u8 (b.drop p)) (hc : q ≤ c) (hsp : pre.map OptY.key ++ (x.key :: optsY ((b.drop p).drop s).length ((b.drop p).drop s)) = optsY n b) (hn2 : n₀ ≤ W3.heap.size) (hB0 : n₀ ≤ Bs) (hk : k = q - s) (hc2 : c2 = c - s) :
    OptRel J n₀ Bs n b v (W3.setCell ⟨Bs, 0, none⟩ (.slice A2 k c2)) ∧ boxLen (W3.setCell ⟨Bs, 0, none⟩ (.slice A2 k c2)) Bs < q := by
  subst hk hc2
  have hb2 : Blk (W3.setCell ⟨Bs, 0, none⟩ (.slice A2 (q - s) (c - s))) Bs 26 #[.slice A2 (q - s) (c - s)] := hbx.set 0 _
  have hl : (b.drop p).length = q := by simp [hn, hq]
  have hd : (b.drop p).drop s = b.drop (p + s) := by rw [List.drop_drop]
  have hl2 : (b.drop (p + s)).length = q - s := by rw [← hd, List.length_drop, hl]
  have e : n - (p + s) = q - s := by omega
  refine ⟨⟨pre ++ [x], p + s, A2, c - s, hJ _ W3 _ (some Bs) hJ3 (grownBy_setCell' _ _ _) (.inr rfl), by omega, by rw [e]; exact hb2, ?_, by omega, ?_, by simpa using hn2⟩, ?_⟩
  · rw [← hd]
    exact (hrd.drop s (fun h => hA2 (by rw [hl] at h; exact h))).setCell (p := ⟨Bs, 0, none⟩) hB0 _
  · rw [hd, hl2] at hsp
    rw [e, List.map_append, List.append_assoc]
    exact hsp
  · rw [boxLen_of hb2]; omega
set_option maxRecDepth 100000 in
set_option maxHeartbeats 20000000 in
theorem optIter_in (n : Nat) (m : Nat) (hm : 1 ≤ m) (l Bs n₀ : Nat) (b : List Int) (hn : b.length = n) (hl : n ≤ 40) (hB : Byt b) (J Jx : List OptY → World → Prop) (hJ : BearsBox Bs J)
    (hY : ∀ pre x W, J pre W → pre.length < 41 → YieldAt Fence.wide (m - 1) Tryz.prog l (OptY.enc x) W fun e W' =>
      (e = .returned (.bool true) ∧ J (pre ++ [x]) W' ∧ KpB n₀ Bs W W') ∨ (e = .returned (.bool false) ∧ Jx (pre ++ [x]) W'))
    (A : Option Addr) (cap : Nat) (hcap : n ≤ cap) (W : World) (hn₀ : n₀ ≤ W.heap.size) (hB0 : n₀ ≤ Bs) (hBs : Blk W Bs 26 #[.slice A n cap]) (hr : Rd W n₀ A .u8 b) (h0 : J [] W) :
    CallsIn Fence.wide m Tryz.prog 102 #[.func (.yield l) #[] #[], .pointer (some ⟨Bs, 0, none⟩)] W fun e W' => (∃ v, e = .returned v) ∧
      ((∃ ys, ys.map OptY.key = optsY n b ∧ J ys W') ∨ (∃ pre, (∃ t, (pre ++ t).map OptY.key = optsY n b) ∧ Jx pre W')) := by
  refine callsIn_of_wp Tryz.func102 rfl trivial ?_ rfl
  simp only [Tryz.ntmps102, List.size_toArray, List.length_cons, List.length_nil, Nat.reduceAdd, Nat.reduceSub, Array.replicate_succ, Array.replicate_zero, List.push_toArray, List.append_toArray, List.nil_append, List.cons_append]
  gi_wp2
  gi_loopw [3] (OptRel J n₀ Bs n b) (fun _ wr => boxLen wr Bs)
  case atStart => exact ⟨[], 0, A, cap, h0, by omega, hBs, hr, hcap, rfl, hn₀⟩
  case round =>
    obtain ⟨pre, p, A', c, hJs, hp, hbx, hrd, hc, hsp, hn2⟩ := hrel
    have hlen : (b.drop p).length = n - p := by simp [hn]
    by_cases hz : n - p = 0
    · have hc0 := hbx.cell 0
      have Hsp := Lib.hid (show pre.map OptY.key = optsY n b by
        have : optsY (n - p) (b.drop p) = [] := by rw [hz]; rfl
        rw [this, List.append_nil] at hsp; exact hsp)
      have HJs := Lib.hid hJs
      rw [hz] at hc0
      clear hsp hJs hbx hrd hlen hz
      gi_wp2_with fail
      go_end0
      exact ⟨⟨_, rfl⟩, .inl ⟨_, Hsp.out, HJs.out⟩⟩
    · have hstep := optsY_step (b.drop p) (by omega)
      rw [hlen] at hstep
      rw [hstep] at hsp
      have hBy := hB.drop p
      have hdrop : ∀ k, (b.drop p).drop k = b.drop (p + k) := fun k => by rw [List.drop_drop]
      have hpl : pre.length < 41 := by
        have h1 := congrArg List.length hsp
        rw [List.length_append, List.length_map] at h1
        have := optsY_len n b
        omega
      have HK : Hid (∀ W', Below wr.heap.size wr W' → J pre W' ∧ Blk W' Bs 26 #[.slice A' (n - p) c] ∧ Rd W' n₀ A' .u8 (b.drop p) ∧ n₀ ≤ W'.heap.size) := Lib.hid fun W' h =>
        ⟨hJ pre wr W' none hJs (grown_of_below h) (.inl rfl), hbx.below h hbx.lt, hrd.below h hn2, Nat.le_trans hn2 h.size⟩
      obtain ⟨bb, off, rfl, hbl, hcc⟩ := hrd.at0 (by omega)
      have d0 := hcc 0 (by omega)
      rw [Nat.add_zero] at d0
      obtain ⟨x0, x1⟩ := hBy.at_ 0
      have hi : (0 : Int) < (n - p : Nat) := by omega
      have hbs := hbx.lt
      have hca := fun o => (World.cell?_alloc_lt wr o ⟨Bs, 0, none⟩ hbs).trans (hbx.cell 0)
      have hcb := hbx.cell 0
      have hda := fun o => (World.cell?_alloc_lt wr o ⟨bb, off, none⟩ (by show bb < _; omega)).trans d0
      have HB := Lib.hid hBy
      have HL := Lib.hid hlen
      have HD := Lib.hid hdrop
      have Hsp := Lib.hid hsp
      have Hcc := Lib.hid hcc
      have hqn : n - p ≤ 40 := by omega
      clear hstep hsp hBy hdrop hcc hlen hJs hbx hrd
      generalize hr0 : b.drop p = r at *
      generalize hq0 : n - p = q at *
      have hq1 : q = n - p := hq0.symm
      have Hr := Lib.hid hr0
      have Hq := Lib.hid hq1
      clear hr0 hq0 hq1
      have Hx0 := Lib.hid (show r.getD 0 0 = r.getD 0 0 from rfl)
      generalize hx : r.getD 0 0 = x at *
      by_cases k0 : x = 0
      · subst k0
        have HM := Lib.hid (fun W (h : Rd W W.heap.size (some ⟨bb, off, none⟩) .u8 r) => slMax_any (some ⟨bb, off, none⟩) c q r W HL.out (by omega) (by omega) HB.out h)
        have hany := maxL_any r
        have hw1 := (Below.refl wr.heap.size wr).alloc (Nat.le_refl _) (.cells #[.int .u8 0, .slice none 0 0] 104)
        obtain ⟨hJ1, _, hR1, hn1⟩ := HK.out _ hw1
        have HR1 := Lib.hid (hR1.more hn1)
        clear hR1 hn1 hx
        rw [if_pos rfl] at Hsp
        cases hm0 : r.any (fun x => decide (0 < x)) with
        | true =>
          rw [hm0, if_pos rfl] at Hsp
          rw [hm0] at hany
          obtain ⟨fn, tmps, assign, body, hy, hR⟩ := hY pre ⟨0, none, 0, 0, 62⟩ _ hJ1 hpl
          dsimp only [OptY.enc] at hy
          have HJ1 := Lib.hid hJ1
          clear hJ1 hm0
          generalize maxL r = M at *
          gi_wp2_with fail
          refine ⟨trivial, (callsIn_wide.2 (HM.out _ HR1.out)).mono ?_⟩
          rintro e w2 ⟨rfl, rfl⟩
          gi_wp2_with fail
          refine hR.mono ?_
          rintro e W3 (⟨rfl, hJ3, hk3⟩ | ⟨rfl, hJx3⟩)
          · gi_wp2_with fail
            refine bodyPost_ret (results_none rfl _ _ _) rfl ?_
            exact ⟨⟨_, rfl⟩, .inl ⟨_, by rw [List.map_append]; exact Hsp.out, hJ3⟩⟩
          · gi_wp2_with fail
            refine bodyPost_ret (results_none rfl _ _ _) rfl ?_
            exact ⟨⟨_, rfl⟩, .inr ⟨_, ⟨[], by rw [List.append_nil, List.map_append]; exact Hsp.out⟩, hJx3⟩⟩
        | false =>
          rw [hm0, if_neg (by decide), List.append_nil] at Hsp
          rw [hm0] at hany
          have HJ1 := Lib.hid hJ1
          clear hJ1 hm0
          generalize maxL r = M at *
          gi_wp2_with fail
          refine ⟨trivial, (callsIn_wide.2 (HM.out _ HR1.out)).mono ?_⟩
          rintro e w2 ⟨rfl, rfl⟩
          gi_wp2_with fail
          refine bodyPost_ret (results_none rfl _ _ _) rfl ?_
          exact ⟨⟨_, rfl⟩, .inl ⟨_, Hsp.out, HJ1.out⟩⟩
      · have HX := Lib.hid hx
        rw [if_neg k0] at Hsp
        have e0 : (x == 0) = false := by simpa using k0
        by_cases k1 : x = 1
        · subst k1
          rw [if_pos rfl] at Hsp
          have hw1 := (Below.refl wr.heap.size wr).alloc (Nat.le_refl _) (.cells #[.int .u8 1, .slice none 0 0] 104)
          have hob := Blk.new wr 104 #[.int .u8 1, .slice none 0 0]
          have HRt := Lib.hid (optRight_any 1 none 0 0 [] (wr.alloc (.cells #[.int .u8 1, .slice none 0 0] 104)) rfl (by omega) Byt.nil Rd.nil)
          rw [show optRight 1 [] = true from rfl] at HRt
          clear hx e0
          have hz2 := hob.lt
          by_cases hc1 : c = 1
          · subst hc1
            have HC := Lib.hid hc
            gi_wp2_with fail
            refine ⟨trivial, (callsIn_wide.2 HRt.out).mono ?_⟩
            rintro e w2 ⟨rfl, l2⟩
            have l02 := hw1.trans (l2.mono (by simp))
            have hob2 := hob.below l2 hz2
            have hc0 := hob2.cell 0
            have hc1' := hob2.cell 1
            obtain ⟨hJ2, hbx2, hR2, hn2'⟩ := HK.out _ l02
            obtain ⟨fn, tmps, assign, body, hy, hR⟩ := hY pre ⟨1, none, 0, 0, 0⟩ _ hJ2 hpl
            dsimp only [OptY.enc] at hy
            have HBx2 := Lib.hid hbx2
            have HR2 := Lib.hid hR2
            clear hJ2 hbx2 hR2 hca hcb hda d0 l2 l02 hc
            gi_wp2_with fail
            refine hR.mono ?_
            rintro e W3 (⟨rfl, hJ3, hk3⟩ | ⟨rfl, hJx3⟩)
            · have hbx3 : Blk W3 Bs 26 #[.slice (some ⟨bb, off, none⟩) q 1] := hk3.2.trans HBx2.out
              have hcx := hbx3.cell 0
              have hfx := hbx3.frozen 0
              have HN : Hid (∀ v A2 k c2, (1 < q → A2 = some ⟨bb, off + 1, none⟩) → k = q - 1 → c2 = 1 - 1 → OptRel J n₀ Bs n b v (W3.setCell ⟨Bs, 0, none⟩ (.slice A2 k c2)) ∧ boxLen (W3.setCell ⟨Bs, 0, none⟩ (.slice A2 k c2)) Bs < q) := Lib.hid fun v A2 k c2 hA2 hk hc2 =>
                OptRel.next v hJ hJ3 hp hn Hq.out (Nat.le_refl _) (by omega) hbx3 (fun h b' off' e => by
                  simp only [Option.some.injEq, Addr.mk.injEq, and_true] at e
                  obtain ⟨rfl, rfl⟩ := e
                  exact hA2 h) (by rw [Hr.out]; exact HR2.out.below hk3.1 (Nat.le_refl _)) HC.out (by rw [Hr.out]; exact Hsp.out) (Nat.le_trans hn2' (by have := hk3.1.size; omega)) hB0 hk hc2
              clear hJ3 hk3 hbx3 hy hc0 hc1' hob2
              gi_wp2_with fail
              go_roundw
              case rel => exact (HN.out _ _ _ _ (fun h => by first | rfl | (exfalso; have := HC.out; omega)) (by omega) (by omega)).1
              case measure =>
                rw [boxLen_of (HK.out wr (Below.refl _ _)).2.1]
                exact (HN.out undef _ _ _ (fun h => by first | rfl | (exfalso; have := HC.out; omega)) (by omega) (by omega)).2
            · gi_wp2_with fail
              refine bodyPost_ret (results_none rfl _ _ _) rfl ?_
              exact ⟨⟨_, rfl⟩, .inr ⟨_, keys_more Hsp.out, hJx3⟩⟩
          · have hc2 : 1 < c := by omega
            have HC := Lib.hid hc
            gi_wp2_with fail
            refine ⟨trivial, (callsIn_wide.2 HRt.out).mono ?_⟩
            rintro e w2 ⟨rfl, l2⟩
            have l02 := hw1.trans (l2.mono (by simp))
            have hob2 := hob.below l2 hz2
            have hc0 := hob2.cell 0
            have hc1' := hob2.cell 1
            obtain ⟨hJ2, hbx2, hR2, hn2'⟩ := HK.out _ l02
            obtain ⟨fn, tmps, assign, body, hy, hR⟩ := hY pre ⟨1, none, 0, 0, 0⟩ _ hJ2 hpl
            dsimp only [OptY.enc] at hy
            have HBx2 := Lib.hid hbx2
            have HR2 := Lib.hid hR2
            clear hJ2 hbx2 hR2 hca hcb hda d0 l2 l02 hc
            gi_wp2_with fail
            refine hR.mono ?_
            rintro e W3 (⟨rfl, hJ3, hk3⟩ | ⟨rfl, hJx3⟩)
            · have hbx3 : Blk W3 Bs 26 #[.slice (some ⟨bb, off, none⟩) q c] := hk3.2.trans HBx2.out
              have hcx := hbx3.cell 0
              have hfx := hbx3.frozen 0
              have HN : Hid (∀ v A2 k c2, (1 < q → A2 = some ⟨bb, off + 1, none⟩) → k = q - 1 → c2 = c - 1 → OptRel J n₀ Bs n b v (W3.setCell ⟨Bs, 0, none⟩ (.slice A2 k c2)) ∧ boxLen (W3.setCell ⟨Bs, 0, none⟩ (.slice A2 k c2)) Bs < q) := Lib.hid fun v A2 k c2 hA2 hk hc2 =>
                OptRel.next v hJ hJ3 hp hn Hq.out (Nat.le_refl _) (by omega) hbx3 (fun h b' off' e => by
                  simp only [Option.some.injEq, Addr.mk.injEq, and_true] at e
                  obtain ⟨rfl, rfl⟩ := e
                  exact hA2 h) (by rw [Hr.out]; exact HR2.out.below hk3.1 (Nat.le_refl _)) HC.out (by rw [Hr.out]; exact Hsp.out) (Nat.le_trans hn2' (by have := hk3.1.size; omega)) hB0 hk hc2
              clear hJ3 hk3 hbx3 hy hc0 hc1' hob2
              gi_wp2_with fail
              go_roundw
              case rel => exact (HN.out _ _ _ _ (fun h => by first | rfl | (exfalso; have := HC.out; omega)) (by omega) (by omega)).1
              case measure =>
                rw [boxLen_of (HK.out wr (Below.refl _ _)).2.1]
                exact (HN.out undef _ _ _ (fun h => by first | rfl | (exfalso; have := HC.out; omega)) (by omega) (by omega)).2
            · gi_wp2_with fail
              refine bodyPost_ret (results_none rfl _ _ _) rfl ?_
              exact ⟨⟨_, rfl⟩, .inr ⟨_, keys_more Hsp.out, hJx3⟩⟩
        · rw [if_neg k1] at Hsp
          have e1 : (x == 1) = false := by simpa using k1
          have hw1 := (Below.refl wr.heap.size wr).alloc (Nat.le_refl _) (.cells #[.int .u8 x, .slice none 0 0] 104)
          obtain ⟨hJ1, _, hR1, hn1⟩ := HK.out _ hw1
          by_cases q2 : q < 2
          · rw [if_pos q2] at Hsp
            have g1 : ((q : Int) < 2) := by omega
            obtain ⟨fn, tmps, assign, body, hy, hR⟩ := hY pre ⟨0, none, 0, 0, 60⟩ _ hJ1 hpl
            dsimp only [OptY.enc] at hy
            clear hJ1 hR1 hx
            gi_wp2_with fail
            refine hR.mono ?_
            rintro e W3 (⟨rfl, hJ3, hk3⟩ | ⟨rfl, hJx3⟩)
            · gi_wp2_with fail
              refine bodyPost_ret (results_none rfl _ _ _) rfl ?_
              exact ⟨⟨_, rfl⟩, .inl ⟨_, by rw [List.map_append]; exact Hsp.out, hJ3⟩⟩
            · gi_wp2_with fail
              refine bodyPost_ret (results_none rfl _ _ _) rfl ?_
              exact ⟨⟨_, rfl⟩, .inr ⟨_, ⟨[], by rw [List.append_nil, List.map_append]; exact Hsp.out⟩, hJx3⟩⟩
          · rw [if_neg q2] at Hsp
            have g1 : ¬ ((q : Int) < 2) := by omega
            have gi1 : (1 : Int) < q := by omega
            have d1 := Hcc.out 1 (by rw [HL.out]; omega)
            have hdb := fun o => (World.cell?_alloc_lt wr o ⟨bb, off + 1, none⟩ (by show bb < _; omega)).trans d1
            obtain ⟨y0, y1⟩ := HB.out.at_ 1
            have Hy := Lib.hid (show r.getD 1 0 = r.getD 1 0 from rfl)
            generalize hyy : r.getD 1 0 = y at *
            have HYY := Lib.hid hyy
            clear hyy
            by_cases l2 : y < 2
            · rw [if_pos l2] at Hsp
              obtain ⟨fn, tmps, assign, body, hy, hR⟩ := hY pre ⟨0, none, 0, 0, 61⟩ _ hJ1 hpl
              dsimp only [OptY.enc] at hy
              clear hJ1 hR1 hx
              gi_wp2_with fail
              refine hR.mono ?_
              rintro e W3 (⟨rfl, hJ3, hk3⟩ | ⟨rfl, hJx3⟩)
              · gi_wp2_with fail
                refine bodyPost_ret (results_none rfl _ _ _) rfl ?_
                exact ⟨⟨_, rfl⟩, .inl ⟨_, by rw [List.map_append]; exact Hsp.out, hJ3⟩⟩
              · gi_wp2_with fail
                refine bodyPost_ret (results_none rfl _ _ _) rfl ?_
                exact ⟨⟨_, rfl⟩, .inr ⟨_, ⟨[], by rw [List.append_nil, List.map_append]; exact Hsp.out⟩, hJx3⟩⟩
            · rw [if_neg l2] at Hsp
              by_cases l3 : (q : Int) < y
              · rw [if_pos l3] at Hsp
                clear hx
                obtain ⟨hJ1, _, hR1, hn1⟩ := HK.out _ hw1.drew
                obtain ⟨fn, tmps, assign, body, hy, hR⟩ := hY pre ⟨0, none, 0, 0, 60⟩ _ hJ1 hpl
                dsimp only [OptY.enc] at hy
                clear hJ1 hR1
                gi_wp2_with fail
                gi_region
                gi_wp2_with fail
                refine hR.mono ?_
                rintro e W3 (⟨rfl, hJ3, hk3⟩ | ⟨rfl, hJx3⟩)
                · gi_wp2_with fail
                  refine bodyPost_ret (results_none rfl _ _ _) rfl ?_
                  exact ⟨⟨_, rfl⟩, .inl ⟨_, by rw [List.map_append]; exact Hsp.out, hJ3⟩⟩
                · gi_wp2_with fail
                  refine bodyPost_ret (results_none rfl _ _ _) rfl ?_
                  exact ⟨⟨_, rfl⟩, .inr ⟨_, ⟨[], by rw [List.append_nil, List.map_append]; exact Hsp.out⟩, hJx3⟩⟩
              · rw [if_neg l3] at Hsp
                obtain ⟨yn, rfl⟩ : ∃ yn : Nat, y = yn := ⟨y.toNat, by omega⟩
                rw [Int.toNat_natCast] at Hsp
                have HC := Lib.hid hc
                have hwd := hw1
                have HDl := Lib.hid (show ((r.take yn).drop 2).length = yn - 2 from cut_len r 2 yn (by rw [HL.out]; omega))
                have HBd := Lib.hid (show Byt ((r.take yn).drop 2) from (HB.out.take yn).drop 2)
                have HRx := Lib.hid (fun W' (h : Below wr.heap.size wr W') => show Rd W' W'.heap.size (some ⟨bb, off + 2, none⟩) .u8 ((r.take yn).drop 2) from (((HK.out W' h).2.2.1.take yn).word 2).more (HK.out W' h).2.2.2)
                have HCl : Hid (∀ (W : World) (A' : Option Addr) (c : Nat), Rd W W.heap.size A' .u8 ((r.take yn).drop 2) → Calls Tryz.prog 70 #[.slice A' (yn - 2) c] W fun e w' => ∃ v, e = .returned v ∧ Own w' W.heap.size v ((r.take yn).drop 2) ∧ Below W.heap.size W w') :=
                  Lib.hid fun W A' c h => by have := clone_any A' c _ W h (by rw [HDl.out]; omega); rwa [HDl.out] at this
                rcases hor : optRight x ((r.take yn).drop 2) with _ | _
                · rw [hor, if_neg (by decide)] at Hsp
                  have HOE := Lib.hid hor
                  generalize (r.take yn).drop 2 = d at *
                  clear hor hx hc
                  by_cases hc2 : c = 2
                  · subst hc2
                    have s1 : (2 : Int) ≤ (yn : Int) := by omega
                    have s2 : (yn : Int) ≤ 2 := by have := HC.out; omega
                    have HRD : Hid (∀ W', Below wr.heap.size wr W' → Rd W' W'.heap.size (some ⟨bb, off, none⟩) .u8 d) := Lib.hid fun W' _ => by
                      have : d = [] := List.eq_nil_of_length_eq_zero (by rw [HDl.out]; have := HC.out; omega)
                      rw [this]; exact Rd.nil
                    gi_wp2_with fail
                    gi_region
                    gi_wp2_with fail
                    refine ⟨trivial, (callsIn_wide.2 (HCl.out _ _ _ (HRD.out _ hwd.drew))).mono ?_⟩
                    rintro e w2 ⟨v, rfl, ho, l2⟩
                    obtain ⟨pp, rfl⟩ := ho.shape HDl.out
                    have hob2 : Blk w2 wr.heap.size 104 #[.int .u8 x, .slice none 0 0] := ((Blk.new wr 104 #[.int .u8 x, .slice none 0 0]).drew).below l2 (by simp)
                    have hb2 : Below wr.heap.size wr (w2.setCell ⟨wr.heap.size, 1, none⟩ (.slice pp.1 (yn - 2) pp.2)) := (hwd.drew.trans (l2.mono (by simp))).setCell (p := ⟨wr.heap.size, 1, none⟩) (Nat.le_refl _) _
                    have hob3 : Blk (w2.setCell ⟨wr.heap.size, 1, none⟩ (.slice pp.1 (yn - 2) pp.2)) wr.heap.size 104 #[.int .u8 x, .slice pp.1 (yn - 2) pp.2] := hob2.set 1 _
                    have ho3 : Own (w2.setCell ⟨wr.heap.size, 1, none⟩ (.slice pp.1 (yn - 2) pp.2)) (wr.heap.size + 1) (.slice pp.1 (yn - 2) pp.2) d := (ho.base_le (by simp)).setCell_far (fun e => by
                      have := (ho.lt e).1
                      simp at this; omega) _
                    have HRt := Lib.hid (optRight_any x pp.1 pp.2 (yn - 2) d _ HDl.out (by omega) HBd.out ho3.rd)
                    rw [HOE.out] at HRt
                    have hoc0 := hob2.cell 0
                    have hoc1 := hob2.cell 1
                    have hof := hob2.frozen 1
                    have Hb2 := Lib.hid hb2
                    have Hob3 := Lib.hid hob3
                    have hsz2 := hob2.lt
                    clear hob2 hb2 hob3 ho3 ho l2 hca hda hdb
                    gi_wp2_with fail
                    refine ⟨trivial, (callsIn_wide.2 HRt.out).mono ?_⟩
                    rintro e w4 ⟨rfl, l4⟩
                    have hob4 := Hob3.out.below l4 (by simpa using hsz2)
                    have hb4 := Hb2.out.trans (l4.mono (by have := hsz2; simp; omega))
                    have hoc40 := hob4.cell 0
                    have hoc41 := hob4.cell 1
                    obtain ⟨hJ2, hbx2, hR2, hn2'⟩ := HK.out _ hb4
                    have HBx2 := Lib.hid hbx2
                    have HR2 := Lib.hid hR2
                    clear hbx2 hR2 hoc0 hoc1 hof l4 hob4 hb4
                    obtain ⟨fn, tmps, assign, body, hy, hR⟩ := hY pre ⟨x, pp.1, yn - 2, pp.2, 61⟩ _ hJ2 hpl
                    dsimp only [OptY.enc] at hy
                    clear hJ2
                    gi_wp2_with fail
                    refine hR.mono ?_
                    rintro e W3 (⟨rfl, hJ3, hk3⟩ | ⟨rfl, hJx3⟩)
                    · gi_wp2_with fail
                      refine bodyPost_ret (results_none rfl _ _ _) rfl ?_
                      exact ⟨⟨_, rfl⟩, .inl ⟨_, by rw [List.map_append]; exact Hsp.out, hJ3⟩⟩
                    · gi_wp2_with fail
                      refine bodyPost_ret (results_none rfl _ _ _) rfl ?_
                      exact ⟨⟨_, rfl⟩, .inr ⟨_, ⟨[], by rw [List.append_nil, List.map_append]; exact Hsp.out⟩, hJx3⟩⟩
                  · have HRD := HRx
                    have s1 : (2 : Int) ≤ (yn : Int) := by omega
                    have s2 : (yn : Int) ≤ (c : Int) := by have := HC.out; omega
                    gi_wp2_with fail
                    gi_region
                    gi_wp2_with fail
                    refine ⟨trivial, (callsIn_wide.2 (HCl.out _ _ _ (HRD.out _ hwd.drew))).mono ?_⟩
                    rintro e w2 ⟨v, rfl, ho, l2⟩
                    obtain ⟨pp, rfl⟩ := ho.shape HDl.out
                    have hob2 : Blk w2 wr.heap.size 104 #[.int .u8 x, .slice none 0 0] := ((Blk.new wr 104 #[.int .u8 x, .slice none 0 0]).drew).below l2 (by simp)
                    have hb2 : Below wr.heap.size wr (w2.setCell ⟨wr.heap.size, 1, none⟩ (.slice pp.1 (yn - 2) pp.2)) := (hwd.drew.trans (l2.mono (by simp))).setCell (p := ⟨wr.heap.size, 1, none⟩) (Nat.le_refl _) _
                    have hob3 : Blk (w2.setCell ⟨wr.heap.size, 1, none⟩ (.slice pp.1 (yn - 2) pp.2)) wr.heap.size 104 #[.int .u8 x, .slice pp.1 (yn - 2) pp.2] := hob2.set 1 _
                    have ho3 : Own (w2.setCell ⟨wr.heap.size, 1, none⟩ (.slice pp.1 (yn - 2) pp.2)) (wr.heap.size + 1) (.slice pp.1 (yn - 2) pp.2) d := (ho.base_le (by simp)).setCell_far (fun e => by
                      have := (ho.lt e).1
                      simp at this; omega) _
                    have HRt := Lib.hid (optRight_any x pp.1 pp.2 (yn - 2) d _ HDl.out (by omega) HBd.out ho3.rd)
                    rw [HOE.out] at HRt
                    have hoc0 := hob2.cell 0
                    have hoc1 := hob2.cell 1
                    have hof := hob2.frozen 1
                    have Hb2 := Lib.hid hb2
                    have Hob3 := Lib.hid hob3
                    have hsz2 := hob2.lt
                    clear hob2 hb2 hob3 ho3 ho l2 hca hda hdb
                    gi_wp2_with fail
                    refine ⟨trivial, (callsIn_wide.2 HRt.out).mono ?_⟩
                    rintro e w4 ⟨rfl, l4⟩
                    have hob4 := Hob3.out.below l4 (by simpa using hsz2)
                    have hb4 := Hb2.out.trans (l4.mono (by have := hsz2; simp; omega))
                    have hoc40 := hob4.cell 0
                    have hoc41 := hob4.cell 1
                    obtain ⟨hJ2, hbx2, hR2, hn2'⟩ := HK.out _ hb4
                    have HBx2 := Lib.hid hbx2
                    have HR2 := Lib.hid hR2
                    clear hbx2 hR2 hoc0 hoc1 hof l4 hob4 hb4
                    obtain ⟨fn, tmps, assign, body, hy, hR⟩ := hY pre ⟨x, pp.1, yn - 2, pp.2, 61⟩ _ hJ2 hpl
                    dsimp only [OptY.enc] at hy
                    clear hJ2
                    gi_wp2_with fail
                    refine hR.mono ?_
                    rintro e W3 (⟨rfl, hJ3, hk3⟩ | ⟨rfl, hJx3⟩)
                    · gi_wp2_with fail
                      refine bodyPost_ret (results_none rfl _ _ _) rfl ?_
                      exact ⟨⟨_, rfl⟩, .inl ⟨_, by rw [List.map_append]; exact Hsp.out, hJ3⟩⟩
                    · gi_wp2_with fail
                      refine bodyPost_ret (results_none rfl _ _ _) rfl ?_
                      exact ⟨⟨_, rfl⟩, .inr ⟨_, ⟨[], by rw [List.append_nil, List.map_append]; exact Hsp.out⟩, hJx3⟩⟩
                · rw [hor, if_pos rfl] at Hsp
                  have HOE := Lib.hid hor
                  generalize (r.take yn).drop 2 = d at *
                  clear hor hx hc
                  by_cases hc2 : c = 2
                  · subst hc2
                    obtain rfl : yn = 2 := by have := HC.out; omega
                    have HRD : Hid (∀ W', Below wr.heap.size wr W' → Rd W' W'.heap.size (some ⟨bb, off, none⟩) .u8 d) := Lib.hid fun W' _ => by
                      have : d = [] := List.eq_nil_of_length_eq_zero (by rw [HDl.out])
                      rw [this]; exact Rd.nil
                    gi_wp2_with fail
                    gi_region
                    gi_wp2_with fail
                    refine ⟨trivial, (callsIn_wide.2 (HCl.out _ _ _ (HRD.out _ hwd.drew))).mono ?_⟩
                    rintro e w2 ⟨v, rfl, ho, l2⟩
                    obtain ⟨pp, rfl⟩ := ho.shape HDl.out
                    have hob2 : Blk w2 wr.heap.size 104 #[.int .u8 x, .slice none 0 0] := ((Blk.new wr 104 #[.int .u8 x, .slice none 0 0]).drew).below l2 (by simp)
                    have hb2 : Below wr.heap.size wr (w2.setCell ⟨wr.heap.size, 1, none⟩ (.slice pp.1 (2 - 2) pp.2)) := (hwd.drew.trans (l2.mono (by simp))).setCell (p := ⟨wr.heap.size, 1, none⟩) (Nat.le_refl _) _
                    have hob3 : Blk (w2.setCell ⟨wr.heap.size, 1, none⟩ (.slice pp.1 (2 - 2) pp.2)) wr.heap.size 104 #[.int .u8 x, .slice pp.1 (2 - 2) pp.2] := hob2.set 1 _
                    have ho3 : Own (w2.setCell ⟨wr.heap.size, 1, none⟩ (.slice pp.1 (2 - 2) pp.2)) (wr.heap.size + 1) (.slice pp.1 (2 - 2) pp.2) d := (ho.base_le (by simp)).setCell_far (fun e => by
                      have := (ho.lt e).1
                      simp at this; omega) _
                    have HRt := Lib.hid (optRight_any x pp.1 pp.2 (2 - 2) d _ HDl.out (by omega) HBd.out ho3.rd)
                    rw [HOE.out] at HRt
                    have hoc0 := hob2.cell 0
                    have hoc1 := hob2.cell 1
                    have hof := hob2.frozen 1
                    have Hb2 := Lib.hid hb2
                    have Hob3 := Lib.hid hob3
                    have hsz2 := hob2.lt
                    clear hob2 hb2 hob3 ho3 ho l2 hca hda hdb
                    gi_wp2_with fail
                    refine ⟨trivial, (callsIn_wide.2 HRt.out).mono ?_⟩
                    rintro e w4 ⟨rfl, l4⟩
                    have hob4 := Hob3.out.below l4 (by simpa using hsz2)
                    have hb4 := Hb2.out.trans (l4.mono (by have := hsz2; simp; omega))
                    have hoc40 := hob4.cell 0
                    have hoc41 := hob4.cell 1
                    obtain ⟨hJ2, hbx2, hR2, hn2'⟩ := HK.out _ hb4
                    have HBx2 := Lib.hid hbx2
                    have HR2 := Lib.hid hR2
                    clear hbx2 hR2 hoc0 hoc1 hof l4 hob4 hb4
                    obtain ⟨fn, tmps, assign, body, hy, hR⟩ := hY pre ⟨x, pp.1, 2 - 2, pp.2, 0⟩ _ hJ2 hpl
                    dsimp only [OptY.enc] at hy
                    clear hJ2
                    gi_wp2_with fail
                    refine hR.mono ?_
                    rintro e W3 (⟨rfl, hJ3, hk3⟩ | ⟨rfl, hJx3⟩)
                    · have hbx3 : Blk W3 Bs 26 #[.slice (some ⟨bb, off, none⟩) q 2] := hk3.2.trans HBx2.out
                      have hcx := hbx3.cell 0
                      have hfx := hbx3.frozen 0
                      have HN : Hid (∀ v A2 k c2, (2 < q → A2 = some ⟨bb, off + 2, none⟩) → k = q - 2 → c2 = 2 - 2 → OptRel J n₀ Bs n b v (W3.setCell ⟨Bs, 0, none⟩ (.slice A2 k c2)) ∧ boxLen (W3.setCell ⟨Bs, 0, none⟩ (.slice A2 k c2)) Bs < q) := Lib.hid fun v A2 k c2 hA2 hk hc2 =>
                        OptRel.next v hJ hJ3 hp hn Hq.out (by omega) (by omega) hbx3 (fun h b' off' e => by
                          simp only [Option.some.injEq, Addr.mk.injEq, and_true] at e
                          obtain ⟨rfl, rfl⟩ := e
                          exact hA2 h) (by rw [Hr.out]; exact HR2.out.below hk3.1 (Nat.le_refl _)) HC.out (by rw [Hr.out]; exact Hsp.out) (Nat.le_trans hn2' (by have := hk3.1.size; omega)) hB0 hk hc2
                      clear hJ3 hk3 hbx3 hy hoc40 hoc41
                      gi_wp2_with fail
                      go_roundw
                      case rel => exact (HN.out _ _ _ _ (fun h => by first | rfl | (exfalso; have := HC.out; omega)) (by omega) (by omega)).1
                      case measure =>
                        rw [boxLen_of (HK.out wr (Below.refl _ _)).2.1]
                        exact (HN.out undef _ _ _ (fun h => by first | rfl | (exfalso; have := HC.out; omega)) (by omega) (by omega)).2
                    · gi_wp2_with fail
                      refine bodyPost_ret (results_none rfl _ _ _) rfl ?_
                      exact ⟨⟨_, rfl⟩, .inr ⟨_, keys_more Hsp.out, hJx3⟩⟩
                  · have HRD := HRx
                    have s1 : (2 : Int) ≤ (yn : Int) := by omega
                    have s2 : (yn : Int) ≤ (c : Int) := by have := HC.out; omega
                    by_cases hcy : c = yn
                    · subst hcy
                      gi_wp2_with fail
                      gi_region
                      gi_wp2_with fail
                      refine ⟨trivial, (callsIn_wide.2 (HCl.out _ _ _ (HRD.out _ hwd.drew))).mono ?_⟩
                      rintro e w2 ⟨v, rfl, ho, l2⟩
                      obtain ⟨pp, rfl⟩ := ho.shape HDl.out
                      have hob2 : Blk w2 wr.heap.size 104 #[.int .u8 x, .slice none 0 0] := ((Blk.new wr 104 #[.int .u8 x, .slice none 0 0]).drew).below l2 (by simp)
                      have hb2 : Below wr.heap.size wr (w2.setCell ⟨wr.heap.size, 1, none⟩ (.slice pp.1 (c - 2) pp.2)) := (hwd.drew.trans (l2.mono (by simp))).setCell (p := ⟨wr.heap.size, 1, none⟩) (Nat.le_refl _) _
                      have hob3 : Blk (w2.setCell ⟨wr.heap.size, 1, none⟩ (.slice pp.1 (c - 2) pp.2)) wr.heap.size 104 #[.int .u8 x, .slice pp.1 (c - 2) pp.2] := hob2.set 1 _
                      have ho3 : Own (w2.setCell ⟨wr.heap.size, 1, none⟩ (.slice pp.1 (c - 2) pp.2)) (wr.heap.size + 1) (.slice pp.1 (c - 2) pp.2) d := (ho.base_le (by simp)).setCell_far (fun e => by
                        have := (ho.lt e).1
                        simp at this; omega) _
                      have HRt := Lib.hid (optRight_any x pp.1 pp.2 (c - 2) d _ HDl.out (by omega) HBd.out ho3.rd)
                      rw [HOE.out] at HRt
                      have hoc0 := hob2.cell 0
                      have hoc1 := hob2.cell 1
                      have hof := hob2.frozen 1
                      have Hb2 := Lib.hid hb2
                      have Hob3 := Lib.hid hob3
                      have hsz2 := hob2.lt
                      clear hob2 hb2 hob3 ho3 ho l2 hca hda hdb
                      gi_wp2_with fail
                      refine ⟨trivial, (callsIn_wide.2 HRt.out).mono ?_⟩
                      rintro e w4 ⟨rfl, l4⟩
                      have hob4 := Hob3.out.below l4 (by simpa using hsz2)
                      have hb4 := Hb2.out.trans (l4.mono (by have := hsz2; simp; omega))
                      have hoc40 := hob4.cell 0
                      have hoc41 := hob4.cell 1
                      obtain ⟨hJ2, hbx2, hR2, hn2'⟩ := HK.out _ hb4
                      have HBx2 := Lib.hid hbx2
                      have HR2 := Lib.hid hR2
                      clear hbx2 hR2 hoc0 hoc1 hof l4 hob4 hb4
                      obtain ⟨fn, tmps, assign, body, hy, hR⟩ := hY pre ⟨x, pp.1, c - 2, pp.2, 0⟩ _ hJ2 hpl
                      dsimp only [OptY.enc] at hy
                      clear hJ2
                      gi_wp2_with fail
                      refine hR.mono ?_
                      rintro e W3 (⟨rfl, hJ3, hk3⟩ | ⟨rfl, hJx3⟩)
                      · have hbx3 : Blk W3 Bs 26 #[.slice (some ⟨bb, off, none⟩) q c] := hk3.2.trans HBx2.out
                        have hcx := hbx3.cell 0
                        have hfx := hbx3.frozen 0
                        have HN : Hid (∀ v A2 k c2, (c < q → A2 = some ⟨bb, off + c, none⟩) → k = q - c → c2 = c - c → OptRel J n₀ Bs n b v (W3.setCell ⟨Bs, 0, none⟩ (.slice A2 k c2)) ∧ boxLen (W3.setCell ⟨Bs, 0, none⟩ (.slice A2 k c2)) Bs < q) := Lib.hid fun v A2 k c2 hA2 hk hc2 =>
                          OptRel.next v hJ hJ3 hp hn Hq.out (by omega) (by omega) hbx3 (fun h b' off' e => by
                            simp only [Option.some.injEq, Addr.mk.injEq, and_true] at e
                            obtain ⟨rfl, rfl⟩ := e
                            exact hA2 h) (by rw [Hr.out]; exact HR2.out.below hk3.1 (Nat.le_refl _)) HC.out (by rw [Hr.out]; exact Hsp.out) (Nat.le_trans hn2' (by have := hk3.1.size; omega)) hB0 hk hc2
                        clear hJ3 hk3 hbx3 hy hoc40 hoc41
                        gi_wp2_with fail
                        go_roundw
                        case rel => exact (HN.out _ _ _ _ (fun h => by first | rfl | (exfalso; have := HC.out; omega)) (by omega) (by omega)).1
                        case measure =>
                          rw [boxLen_of (HK.out wr (Below.refl _ _)).2.1]
                          exact (HN.out undef _ _ _ (fun h => by first | rfl | (exfalso; have := HC.out; omega)) (by omega) (by omega)).2
                      · gi_wp2_with fail
                        refine bodyPost_ret (results_none rfl _ _ _) rfl ?_
                        exact ⟨⟨_, rfl⟩, .inr ⟨_, keys_more Hsp.out, hJx3⟩⟩
                    · have hcy2 : yn < c := by have := HC.out; omega
                      gi_wp2_with fail
                      gi_region
                      gi_wp2_with fail
                      refine ⟨trivial, (callsIn_wide.2 (HCl.out _ _ _ (HRD.out _ hwd.drew))).mono ?_⟩
                      rintro e w2 ⟨v, rfl, ho, l2⟩
                      obtain ⟨pp, rfl⟩ := ho.shape HDl.out
                      have hob2 : Blk w2 wr.heap.size 104 #[.int .u8 x, .slice none 0 0] := ((Blk.new wr 104 #[.int .u8 x, .slice none 0 0]).drew).below l2 (by simp)
                      have hb2 : Below wr.heap.size wr (w2.setCell ⟨wr.heap.size, 1, none⟩ (.slice pp.1 (yn - 2) pp.2)) := (hwd.drew.trans (l2.mono (by simp))).setCell (p := ⟨wr.heap.size, 1, none⟩) (Nat.le_refl _) _
                      have hob3 : Blk (w2.setCell ⟨wr.heap.size, 1, none⟩ (.slice pp.1 (yn - 2) pp.2)) wr.heap.size 104 #[.int .u8 x, .slice pp.1 (yn - 2) pp.2] := hob2.set 1 _
                      have ho3 : Own (w2.setCell ⟨wr.heap.size, 1, none⟩ (.slice pp.1 (yn - 2) pp.2)) (wr.heap.size + 1) (.slice pp.1 (yn - 2) pp.2) d := (ho.base_le (by simp)).setCell_far (fun e => by
                        have := (ho.lt e).1
                        simp at this; omega) _
                      have HRt := Lib.hid (optRight_any x pp.1 pp.2 (yn - 2) d _ HDl.out (by omega) HBd.out ho3.rd)
                      rw [HOE.out] at HRt
                      have hoc0 := hob2.cell 0
                      have hoc1 := hob2.cell 1
                      have hof := hob2.frozen 1
                      have Hb2 := Lib.hid hb2
                      have Hob3 := Lib.hid hob3
                      have hsz2 := hob2.lt
                      clear hob2 hb2 hob3 ho3 ho l2 hca hda hdb
                      gi_wp2_with fail
                      refine ⟨trivial, (callsIn_wide.2 HRt.out).mono ?_⟩
                      rintro e w4 ⟨rfl, l4⟩
                      have hob4 := Hob3.out.below l4 (by simpa using hsz2)
                      have hb4 := Hb2.out.trans (l4.mono (by have := hsz2; simp; omega))
                      have hoc40 := hob4.cell 0
                      have hoc41 := hob4.cell 1
                      obtain ⟨hJ2, hbx2, hR2, hn2'⟩ := HK.out _ hb4
                      have HBx2 := Lib.hid hbx2
                      have HR2 := Lib.hid hR2
                      clear hbx2 hR2 hoc0 hoc1 hof l4 hob4 hb4
                      obtain ⟨fn, tmps, assign, body, hy, hR⟩ := hY pre ⟨x, pp.1, yn - 2, pp.2, 0⟩ _ hJ2 hpl
                      dsimp only [OptY.enc] at hy
                      clear hJ2
                      gi_wp2_with fail
                      refine hR.mono ?_
                      rintro e W3 (⟨rfl, hJ3, hk3⟩ | ⟨rfl, hJx3⟩)
                      · have hbx3 : Blk W3 Bs 26 #[.slice (some ⟨bb, off, none⟩) q c] := hk3.2.trans HBx2.out
                        have hcx := hbx3.cell 0
                        have hfx := hbx3.frozen 0
                        have HN : Hid (∀ v A2 k c2, (yn < q → A2 = some ⟨bb, off + yn, none⟩) → k = q - yn → c2 = c - yn → OptRel J n₀ Bs n b v (W3.setCell ⟨Bs, 0, none⟩ (.slice A2 k c2)) ∧ boxLen (W3.setCell ⟨Bs, 0, none⟩ (.slice A2 k c2)) Bs < q) := Lib.hid fun v A2 k c2 hA2 hk hc2 =>
                          OptRel.next v hJ hJ3 hp hn Hq.out (by omega) (by omega) hbx3 (fun h b' off' e => by
                            simp only [Option.some.injEq, Addr.mk.injEq, and_true] at e
                            obtain ⟨rfl, rfl⟩ := e
                            exact hA2 h) (by rw [Hr.out]; exact HR2.out.below hk3.1 (Nat.le_refl _)) HC.out (by rw [Hr.out]; exact Hsp.out) (Nat.le_trans hn2' (by have := hk3.1.size; omega)) hB0 hk hc2
                        clear hJ3 hk3 hbx3 hy hoc40 hoc41
                        gi_wp2_with fail
                        go_roundw
                        case rel => exact (HN.out _ _ _ _ (fun h => by first | rfl | (exfalso; have := HC.out; omega)) (by omega) (by omega)).1
                        case measure =>
                          rw [boxLen_of (HK.out wr (Below.refl _ _)).2.1]
                          exact (HN.out undef _ _ _ (fun h => by first | rfl | (exfalso; have := HC.out; omega)) (by omega) (by omega)).2
                      · gi_wp2_with fail
                        refine bodyPost_ret (results_none rfl _ _ _) rfl ?_
                        exact ⟨⟨_, rfl⟩, .inr ⟨_, keys_more Hsp.out, hJx3⟩⟩
end Go.Proofs.YtebeekjcepjcnaaGreatDoor
