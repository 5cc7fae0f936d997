/-
  tcp.Write, at a header that is right.
-/
import Derived.Deep.RegionHeld3
import Derived.Test.YtebeekjcepjcnaaGreatDoorRIpback
namespace Go.Proofs.YtebeekjcepjcnaaGreatDoor
open Go.RowKit Go.Shelf

/-- What each operation of the great statement has come to. -/
def TcpF (B ol dl fl cap dcap : Nat) (sp dp seqn ackn win urg : Int) (A D : Option Addr) (T : List Int) : Nat → Value → World → Prop
  | 0, x, _ => x = .pointer (some ⟨B, 0, none⟩)
  | 1, x, _ => x = .int .u16 sp
  | 2, x, _ => x = .pointer (some ⟨B, 1, none⟩)
  | 3, x, _ => x = .int .u16 dp
  | 4, x, W => ∃ g, x = .slice (some ⟨g, 0, none⟩) 2 2 ∧ Rd W W.heap.size (some ⟨g, 0, none⟩) .u16 [sp, dp]
  | 5, x, W => Own W B x (b16s [sp, dp])
  | 6, x, _ => x = .pointer (some ⟨B, 2, none⟩)
  | 7, x, _ => x = .int .u32 seqn
  | 8, x, _ => x = .pointer (some ⟨B, 3, none⟩)
  | 9, x, _ => x = .int .u32 ackn
  | 10, x, W => ∃ g, x = .slice (some ⟨g, 0, none⟩) 2 2 ∧ Rd W W.heap.size (some ⟨g, 0, none⟩) .u32 [seqn, ackn]
  | 11, x, W => Own W B x (b32s [seqn, ackn])
  | 12, x, _ => x = .int .i64 (20 + (ol : Int))
  | 13, x, _ => x = .int .i64 ((20 + (ol : Int)) / 4)
  | 14, x, _ => x = .int .i64 ((20 + (ol : Int)) / 4 * 16)
  | 15, x, _ => x = .int .u8 ((20 + (ol : Int)) / 4 * 16)
  | 16, x, _ => x = .pointer (some ⟨B, 4, none⟩)
  | 17, x, _ => x = .int .u8 fl
  | 18, x, W => ∃ g, x = .slice (some ⟨g, 0, none⟩) 2 2 ∧ Rd W W.heap.size (some ⟨g, 0, none⟩) .u8 [(20 + (ol : Int)) / 4 * 16, fl]
  | 19, x, _ => x = .pointer (some ⟨B, 5, none⟩)
  | 20, x, _ => x = .int .u16 win
  | 21, x, _ => x = .pointer (some ⟨B, 6, none⟩)
  | 22, x, _ => x = .int .u16 urg
  | 23, x, W => ∃ g, x = .slice (some ⟨g, 0, none⟩) 3 3 ∧ Rd W W.heap.size (some ⟨g, 0, none⟩) .u16 [win, 0, urg]
  | 24, x, W => Own W B x (b16s [win, 0, urg])
  | 25, x, _ => x = .pointer (some ⟨B, 7, none⟩)
  | 26, x, _ => x = .slice A ol cap
  | 27, x, _ => x = .slice D dl dcap
  | 28, x, W => ∃ g ps, x = .slice (some ⟨g, 0, none⟩) 6 6 ∧ Parts W W.heap.size (some ⟨g, 0, none⟩) ps ∧ ps.length = 6 ∧ partsL ps = T
  | 29, x, W => Own W B x (T)
  | 30, x, W => Own W B x (T)
  | _, _, _ => True
theorem Parts.belows {w w' : World} {A : Option Addr} {ps : List Part} (h : Parts w w.heap.size A ps) (hb : Below w.heap.size w w') : Parts w' w'.heap.size A ps := fun j hj => by
  obtain ⟨b, off, p, h1, h2, h3, h4, h5⟩ := h.below hb (Nat.le_refl _) j hj
  exact ⟨b, off, p, h1, h2, Nat.lt_of_lt_of_le h3 hb.size, h4, h5.more hb.size⟩

theorem TcpF_mono {B ol dl fl cap dcap : Nat} {sp dp seqn ackn win urg : Int} {A D : Option Addr} {T : List Int} {W W' : World} (hb : Below W.heap.size W W') (j : Nat) (x : Value) (h : TcpF B ol dl fl cap dcap sp dp seqn ackn win urg A D T j x W) : TcpF B ol dl fl cap dcap sp dp seqn ackn win urg A D T j x W' := by
  match j, h with
  | 0, h => exact h
  | 1, h => exact h
  | 2, h => exact h
  | 3, h => exact h
  | 4, ⟨g, e, h⟩ => exact ⟨g, e, h.belows hb (Nat.le_refl _)⟩
  | 5, h => exact Own.below h hb (Nat.le_refl _)
  | 6, h => exact h
  | 7, h => exact h
  | 8, h => exact h
  | 9, h => exact h
  | 10, ⟨g, e, h⟩ => exact ⟨g, e, h.belows hb (Nat.le_refl _)⟩
  | 11, h => exact Own.below h hb (Nat.le_refl _)
  | 12, h => exact h
  | 13, h => exact h
  | 14, h => exact h
  | 15, h => exact h
  | 16, h => exact h
  | 17, h => exact h
  | 18, ⟨g, e, h⟩ => exact ⟨g, e, h.belows hb (Nat.le_refl _)⟩
  | 19, h => exact h
  | 20, h => exact h
  | 21, h => exact h
  | 22, h => exact h
  | 23, ⟨g, e, h⟩ => exact ⟨g, e, h.belows hb (Nat.le_refl _)⟩
  | 24, h => exact Own.below h hb (Nat.le_refl _)
  | 25, h => exact h
  | 26, h => exact h
  | 27, h => exact h
  | 28, ⟨g, ps, e, h, r⟩ => exact ⟨g, ps, e, h.belows hb, r⟩
  | 29, h => exact Own.below h hb (Nat.le_refl _)
  | 30, h => exact Own.below h hb (Nat.le_refl _)
  | _ + 31, _ => trivial

def tcpHead (sp dp seqn ackn : Int) (ol fl : Nat) (win urg : Int) : List Int := b16s [sp, dp] ++ b32s [seqn, ackn] ++ [(20 + (ol : Int)) / 4 * 16, fl] ++ b16s [win, 0, urg]
def tcpSumL (src dst : Int) (T : List Int) : List Int := splice T 16 (b16s [overB (pseudoL src dst 6 T.length) T])
def tcpL0 (sp dp seqn ackn : Int) (fl : Nat) (win urg : Int) (opts data : List Int) : List Int := tcpHead sp dp seqn ackn opts.length fl win urg ++ opts ++ data
def tcpL (sp dp seqn ackn : Int) (fl : Nat) (win urg : Int) (opts : List Int) (src dst : Int) (data : List Int) : List Int := tcpSumL src dst (tcpL0 sp dp seqn ackn fl win urg opts data)

set_option maxRecDepth 100000 in
set_option maxHeartbeats 4000000 in
theorem tcpWrite_any (sp dp seqn ackn win urg : Int) (fl : Nat) (A : Option Addr) (cap ol : Nat) (opts : List Int) (src dst : Int) (D : Option Addr) (dcap dl : Nat) (data : List Int) (w : World)
    (p0 : 0 < sp) (p1 : sp < 65536) (q0 : 0 < dp) (q1 : dp < 65536) (s0 : 0 ≤ seqn) (s1 : seqn < 4294967296) (a0 : 0 ≤ ackn) (a1 : ackn < 4294967296) (hf : fl < 256) (hsane : saneB fl = true)
    (w0 : 0 ≤ win) (w1 : win < 65536) (u0 : 0 ≤ urg) (u1 : urg < 65536) (hol : opts.length = ol) (ho : ol ≤ 40) (ho4 : ol % 4 = 0) (hdl : data.length = dl) (hd : ol + dl ≤ 65495)
    (x0 : 0 ≤ src) (x1 : src < 4294967296) (y0 : 0 ≤ dst) (y1 : dst < 4294967296) (hob : Byt opts) (hdb : Byt data) (hrA : Rd w w.heap.size A .u8 opts) (hrD : Rd w w.heap.size D .u8 data) :
    Calls Tryz.prog 38 #[.agg #[.int .u16 sp, .int .u16 dp, .int .u32 seqn, .int .u32 ackn, .int .u8 fl, .int .u16 win, .int .u16 urg, .slice A ol cap], .int .u32 src, .int .u32 dst, .slice D dl dcap] w fun e w' => ∃ v, e = .returned (.tuple #[v, .int .i64 0]) ∧ Own w' w.heap.size v (tcpL sp dp seqn ackn fl win urg opts src dst data) ∧ Below w.heap.size w w' := by
  have b1 : (sp == 0) = false := by simp; omega
  have b2 : (dp == 0) = false := by simp; omega
  have b3 : decide (40 < (ol : Int)) = false := by simp; omega
  have b4 : (((20 + (ol : Int)) % 4) != 0) = false := by simp; omega
  have b5 : decide (65515 < 20 + (ol : Int) + (dl : Int)) = false := by simp; omega
  have Hol := Lib.hid hol
  have Hdl := Lib.hid hdl
  have Hs := Lib.hid hsane
  obtain ⟨T, hT⟩ : ∃ T, T = tcpL0 sp dp seqn ackn fl win urg opts data := ⟨_, rfl⟩
  have HTe := Lib.hid (show b16s [sp, dp] ++ (b32s [seqn, ackn] ++ ([(20 + (ol : Int)) / 4 * 16, (fl : Int)] ++ (b16s [win, 0, urg] ++ (opts ++ data)))) = T by rw [hT]; unfold tcpL0 tcpHead; rw [hol]; simp only [List.append_assoc])
  have HTl := Lib.hid (show T.length = 20 + ol + dl by rw [hT]; unfold tcpL0 tcpHead; simp only [List.length_append, b16s_len, b32s_len, List.length_cons, List.length_nil, hdl, hol])
  have HTf := Lib.hid (show splice T 16 (b16s [overB (pseudoL src dst 6 (20 + (ol : Int) + (dl : Int))) T]) = tcpL sp dp seqn ackn fl win urg opts src dst data by
    unfold tcpL tcpSumL; rw [← hT, HTl.out, show (((20 + ol + dl : Nat) : Int)) = 20 + (ol : Int) + (dl : Int) by omega])
  have HTb : Byt T := by
    rw [← HTe.out]
    refine Byt.append (b16s_byt (by intro y hy; simp at hy; rcases hy with rfl | rfl <;> omega)) (Byt.append (b32s_byt (by intro y hy; simp at hy; rcases hy with rfl | rfl <;> omega)) (Byt.append (.cons (by omega) (by omega) (.cons (by omega) (by omega) .nil)) (Byt.append (b16s_byt (by intro y hy; simp at hy; rcases hy with rfl | rfl | rfl <;> omega)) (hob.append hdb))))
  clear hol hdl ho4 hsane hT
  go_enter Tryz.func38, Tryz.ntmps38
  go_wp2_with fail
  have hsn := sane_any fl (w.alloc (.cells #[.int .u16 sp, .int .u16 dp, .int .u32 seqn, .int .u32 ackn, .int .u8 fl, .int .u16 win, .int .u16 urg, .slice A ol cap] 110)) hf
  rw [Hs.out] at hsn
  refine hsn.mono ?_
  rintro e w' ⟨rfl, rfl⟩
  clear hsn
  go_upto_region 4 with (fail)
  have bx0 := Blk.new w 110 #[.int .u16 sp, .int .u16 dp, .int .u32 seqn, .int .u32 ackn, .int .u8 fl, .int .u16 win, .int .u16 urg, .slice A ol cap]
  have hrA0 := hrA.allocs (.cells #[.int .u16 sp, .int .u16 dp, .int .u32 seqn, .int .u32 ackn, .int .u8 fl, .int .u16 win, .int .u16 urg, .slice A ol cap] 110)
  have hrD0 := hrD.allocs (.cells #[.int .u16 sp, .int .u16 dp, .int .u32 seqn, .int .u32 ackn, .int .u8 fl, .int .u16 win, .int .u16 urg, .slice A ol cap] 110)
  have hbw0 : Below w.heap.size w (w.alloc (.cells #[.int .u16 sp, .int .u16 dp, .int .u32 seqn, .int .u32 ackn, .int .u8 fl, .int .u16 win, .int .u16 urg, .slice A ol cap] 110)) := (Below.refl _ _).alloc (Nat.le_refl _) _
  have hsz0 : w.heap.size ≤ (w.alloc (.cells #[.int .u16 sp, .int .u16 dp, .int .u32 seqn, .int .u32 ackn, .int .u8 fl, .int .u16 win, .int .u16 urg, .slice A ol cap] 110)).heap.size := by simp
  generalize w.alloc (.cells #[.int .u16 sp, .int .u16 dp, .int .u32 seqn, .int .u32 ackn, .int .u8 fl, .int .u16 win, .int .u16 urg, .slice A ol cap] 110) = wr at *
  refine wp_region_inv (by kernel_rfl) (depsOk_spec (by kernel_rfl)) (fun L a W => ∃ v : Nat → Value, a = { tmps := #[.agg #[.int .u16 sp, .int .u16 dp, .int .u32 seqn, .int .u32 ackn, .int .u8 fl, .int .u16 win, .int .u16 urg, .slice A ol cap], .int .u32 src, .int .u32 dst, .slice D dl dcap, .pointer (some ⟨w.heap.size, 0, none⟩), undef, undef, undef, .slice none 0 0, .int .i64 0, .int .i64 (20 + ol), v 30, undef, undef, .pointer (some ⟨w.heap.size, 7, none⟩), .slice A ol cap, .int .i64 ol, .int .i64 (20 + ol), .pointer (some ⟨w.heap.size, 0, none⟩), .int .u16 sp, .bool false, .bool false, .pointer (some ⟨w.heap.size, 1, none⟩), .int .u16 dp, .bool false, .bool false, .bool false, .pointer (some ⟨w.heap.size, 4, none⟩), .int .u8 fl, .bool true, .bool false, .bool false, .bool false, .pointer (some ⟨w.heap.size, 7, none⟩), .slice A ol cap, .int .i64 ol, .bool false, .bool false, .bool false, .int .i64 (20 + ol), .int .i64 ((20 + ol) % 4), .bool false, .bool false, .bool false, .int .i64 (20 + ol), .slice D dl dcap, .int .i64 dl, .int .i64 (20 + ol + dl), .bool false, .bool false, v 0, v 1, v 2, v 3, v 4, v 5, v 6, v 7, v 8, v 9, v 10, v 11, v 12, v 13, v 14, v 15, v 16, v 17, v 18, v 19, v 20, v 21, v 22, v 23, v 24, v 25, v 26, v 27, v 28, v 29, undef, undef, undef, undef, undef, undef, undef, undef, undef, undef, undef, undef, undef, undef, undef, undef, undef, undef], defers := [] } ∧ Below wr.heap.size wr W ∧ ∀ j, L j = true → TcpF w.heap.size ol dl fl cap dcap sp dp seqn ackn win urg A D T j (v j) W) ?h0 ?hstep ?hend
  case h0 => exact ⟨fun _ => undef, rfl, (Below.refl _ _).drew, fun j hj => by cases hj⟩
  case hend =>
    intro L a W hL ⟨v, ha, hb, hF⟩
    have hT : Own W w.heap.size (v 30) T := hF 30 (hL 30 (by decide))
    subst ha
    clear hF hL
    obtain ⟨g, c, hv, hg0, hg1, hc16, _⟩ := hT.form (by rw [HTl.out]; omega)
    rw [HTl.out] at hc16
    replace hc16 : ¬ c = 16 := by omega
    rw [HTl.out] at hv
    rw [hv] at hT
    have HT := Lib.hid hT
    have Hbw := Lib.hid (hbw0.trans (hb.mono hsz0))
    clear hT hb bx0 hrA0 hrD0 hbw0 hsz0
    have hps := joinL_bd (l := [src / 65536, src % 65536, dst / 65536, dst % 65536, 6, 20 + (ol : Int) + (dl : Int)]) (by intro y hy; simp at hy; rcases hy with rfl | rfl | rfl | rfl | rfl | rfl <;> omega)
    go_wp2_with fail
    refine (pseudo_any src dst 6 (20 + (ol : Int) + (dl : Int)) W x0 x1 y0 y1 (by omega) (by omega) (by omega) (by omega)).mono ?_
    rintro e w2 ⟨rfl, l2⟩
    have HT2 := Lib.hid (HT.out.below l2 (Nat.le_refl _))
    have hbT := HTb
    have hps' : 0 ≤ pseudoL src dst 6 (20 + (ol : Int) + (dl : Int)) ∧ pseudoL src dst 6 (20 + (ol : Int) + (dl : Int)) ≤ 65535 := hps
    clear hps
    generalize hP : pseudoL src dst 6 (20 + (ol : Int) + (dl : Int)) = ps at *
    clear hP
    have hov := overB_bd hbT hps'.1 (by omega)
    have hle : (16 : Int) ≤ 20 + (ol : Int) + (dl : Int) := by omega
    go_upto_region 6 with (fail)
    have hov2 := over_any ps (some ⟨g, 0, none⟩) c T w2.drew hps'.1 (by omega) hbT (by rw [HTl.out]; omega) HT2.out.rd
    rw [HTl.out] at hov2
    go_region_law (first
      | (go_simp; go_at_call 78; refine hov2.mono ?_; rintro e w3 ⟨rfl, l3⟩)
      | (go_simp; go_at_call 75; refine (words_any _ 1 [overB ps T] _ (by simp) (fun y hy => by simp at hy; subst hy; omega) (by exact Rd.new3 rfl rfl)).mono ?_; rintro e w4 ⟨v4, rfl, o4, l4⟩; obtain ⟨A4, c4, rfl, r4, _, _⟩ := o4.open_)
      | (refine step_copy_own rfl (.tmp 89) (.tmp 94) rfl w.heap.size g (20 + ol + dl) c T (((HT2.out.drew.below l3 (Nat.le_refl _)).alloc _).below l4 (Nat.le_refl _)) 16 _ A4 _ _ _ c4 rfl rfl (b16s [overB ps T]) (Nat.min_eq_left (by rw [b16s_len]; simp; omega)).symm (fun _ => rfl) _ r4 (by simp [b16s_len]; omega) ?_; intro w5 o5 g5 l5))
    go_wp2_with fail
    go_ret2
    refine ⟨_, rfl, ?_, ?_⟩
    · rw [← HTf.out]
      exact o5
    · have s2 := Hbw.out.size
      have s3 := l2.size
      have s4 := l3.size
      have s5 := l4.size
      simp at s4 s5
      exact ((((Hbw.out.trans (l2.mono s2)).drew.trans (l3.mono (by simp; omega))).alloc (by omega) _).trans (l4.mono (by simp; omega))).trans (l5.mono hg0)
  case hstep =>
    intro L a W i o hoi hLi hdep ⟨v, ha, hb, hF⟩
    subst ha
    have hi : i < 31 := (Array.getElem?_eq_some_iff.1 hoi).1
    have hcx := (bx0.below hb bx0.lt).cell
    have HF := Lib.hid hF
    have Hb := Lib.hid hb
    have hszW := hb.size
    clear hF hb
    have HrA := Lib.hid (hrA0.belows Hb.out (Nat.le_refl _))
    have HrD := Lib.hid (hrD0.belows Hb.out (Nat.le_refl _))
    clear hrA hrD hrA0 hrD0 hbw0
    rcases (show i = 0 ∨ i = 1 ∨ i = 2 ∨ i = 3 ∨ i = 4 ∨ i = 5 ∨ i = 6 ∨ i = 7 ∨ i = 8 ∨ i = 9 ∨ i = 10 ∨ i = 11 ∨ i = 12 ∨ i = 13 ∨ i = 14 ∨ i = 15 ∨ i = 16 ∨ i = 17 ∨ i = 18 ∨ i = 19 ∨ i = 20 ∨ i = 21 ∨ i = 22 ∨ i = 23 ∨ i = 24 ∨ i = 25 ∨ i = 26 ∨ i = 27 ∨ i = 28 ∨ i = 29 ∨ i = 30 by omega) with rfl | rfl | rfl | rfl | rfl | rfl | rfl | rfl | rfl | rfl | rfl | rfl | rfl | rfl | rfl | rfl | rfl | rfl | rfl | rfl | rfl | rfl | rfl | rfl | rfl | rfl | rfl | rfl | rfl | rfl | rfl

    · -- operation 0
      simp at hoi; subst hoi
      clear hdep hLi
      go_wp2_with fail
      exact ⟨upd v 0 (.pointer (some ⟨w.heap.size, 0, none⟩)), by simp [upd], Hb.out, upd_facts HF.out (fun _ _ h => h) rfl⟩
    · -- operation 1
      simp at hoi; subst hoi
      have h0 : v 0 = .pointer (some ⟨w.heap.size, 0, none⟩) := HF.out 0 (hdep ⟨0, .data⟩ (by simp) rfl)
      clear hdep hLi
      go_wp2_with fail
      exact ⟨upd v 1 (.int .u16 sp), by simp [upd, h0], Hb.out, upd_facts HF.out (fun _ _ h => h) rfl⟩
    · -- operation 2
      simp at hoi; subst hoi
      clear hdep hLi
      go_wp2_with fail
      exact ⟨upd v 2 (.pointer (some ⟨w.heap.size, 1, none⟩)), by simp [upd], Hb.out, upd_facts HF.out (fun _ _ h => h) rfl⟩
    · -- operation 3
      simp at hoi; subst hoi
      have h2 : v 2 = .pointer (some ⟨w.heap.size, 1, none⟩) := HF.out 2 (hdep ⟨2, .data⟩ (by simp) rfl)
      clear hdep hLi
      go_wp2_with fail
      exact ⟨upd v 3 (.int .u16 dp), by simp [upd, h2], Hb.out, upd_facts HF.out (fun _ _ h => h) rfl⟩
    · -- operation 4
      simp at hoi; subst hoi
      have h1 : v 1 = .int .u16 sp := HF.out 1 (hdep ⟨1, .data⟩ (by simp) rfl)
      have h3 : v 3 = .int .u16 dp := HF.out 3 (hdep ⟨3, .data⟩ (by simp) rfl)
      clear hdep hLi
      go_wp2_with fail
      exact ⟨upd v 4 (.slice (some ⟨W.heap.size, 0, none⟩) 2 2), by simp [upd, h1, h3], Hb.out.alloc hszW _, upd_facts HF.out (fun j y h => TcpF_mono ((Below.refl _ _).alloc (Nat.le_refl _) _) j y h) ⟨_, rfl, Rd.new3 rfl rfl⟩⟩
    · -- operation 5
      simp at hoi; subst hoi
      obtain ⟨g4, h4, r4⟩ := (show ∃ g, v 4 = .slice (some ⟨g, 0, none⟩) 2 2 ∧ Rd W W.heap.size (some ⟨g, 0, none⟩) .u16 [sp, dp] from HF.out 4 (hdep ⟨4, .data⟩ (by simp) rfl))
      clear hdep hLi
      go_wp2_with fail
      refine (words_any _ 2 [sp, dp] _ (by simp) (fun y hy => by simp at hy; rcases hy with rfl | rfl <;> omega) r4).mono ?_
      rintro e w2 ⟨x2, rfl, ox, lx⟩
      go_wp2_with fail
      exact ⟨upd v 5 x2, by simp [upd, h4], Hb.out.trans (lx.mono hszW), upd_facts HF.out (fun j y h => TcpF_mono lx j y h) (ox.base_le (by omega))⟩
    · -- operation 6
      simp at hoi; subst hoi
      clear hdep hLi
      go_wp2_with fail
      exact ⟨upd v 6 (.pointer (some ⟨w.heap.size, 2, none⟩)), by simp [upd], Hb.out, upd_facts HF.out (fun _ _ h => h) rfl⟩
    · -- operation 7
      simp at hoi; subst hoi
      have h6 : v 6 = .pointer (some ⟨w.heap.size, 2, none⟩) := HF.out 6 (hdep ⟨6, .data⟩ (by simp) rfl)
      clear hdep hLi
      go_wp2_with fail
      exact ⟨upd v 7 (.int .u32 seqn), by simp [upd, h6], Hb.out, upd_facts HF.out (fun _ _ h => h) rfl⟩
    · -- operation 8
      simp at hoi; subst hoi
      clear hdep hLi
      go_wp2_with fail
      exact ⟨upd v 8 (.pointer (some ⟨w.heap.size, 3, none⟩)), by simp [upd], Hb.out, upd_facts HF.out (fun _ _ h => h) rfl⟩
    · -- operation 9
      simp at hoi; subst hoi
      have h8 : v 8 = .pointer (some ⟨w.heap.size, 3, none⟩) := HF.out 8 (hdep ⟨8, .data⟩ (by simp) rfl)
      clear hdep hLi
      go_wp2_with fail
      exact ⟨upd v 9 (.int .u32 ackn), by simp [upd, h8], Hb.out, upd_facts HF.out (fun _ _ h => h) rfl⟩
    · -- operation 10
      simp at hoi; subst hoi
      have h7 : v 7 = .int .u32 seqn := HF.out 7 (hdep ⟨7, .data⟩ (by simp) rfl)
      have h9 : v 9 = .int .u32 ackn := HF.out 9 (hdep ⟨9, .data⟩ (by simp) rfl)
      clear hdep hLi
      go_wp2_with fail
      exact ⟨upd v 10 (.slice (some ⟨W.heap.size, 0, none⟩) 2 2), by simp [upd, h7, h9], Hb.out.alloc hszW _, upd_facts HF.out (fun j y h => TcpF_mono ((Below.refl _ _).alloc (Nat.le_refl _) _) j y h) ⟨_, rfl, Rd.new3 rfl rfl⟩⟩
    · -- operation 11
      simp at hoi; subst hoi
      obtain ⟨g10, h10, r10⟩ := (show ∃ g, v 10 = .slice (some ⟨g, 0, none⟩) 2 2 ∧ Rd W W.heap.size (some ⟨g, 0, none⟩) .u32 [seqn, ackn] from HF.out 10 (hdep ⟨10, .data⟩ (by simp) rfl))
      clear hdep hLi
      go_wp2_with fail
      refine (longs_any _ 2 [seqn, ackn] _ (by simp) (fun y hy => by simp at hy; rcases hy with rfl | rfl <;> omega) r10).mono ?_
      rintro e w2 ⟨x2, rfl, ox, lx⟩
      go_wp2_with fail
      exact ⟨upd v 11 x2, by simp [upd, h10], Hb.out.trans (lx.mono hszW), upd_facts HF.out (fun j y h => TcpF_mono lx j y h) (ox.base_le (by omega))⟩
    · -- operation 12
      simp at hoi; subst hoi
      clear hdep hLi
      go_wp2_with fail
      exact ⟨upd v 12 (.int .i64 (20 + (ol : Int))), by simp [upd], Hb.out, upd_facts HF.out (fun _ _ h => h) rfl⟩
    · -- operation 13
      simp at hoi; subst hoi
      have h12 : v 12 = .int .i64 (20 + (ol : Int)) := HF.out 12 (hdep ⟨12, .data⟩ (by simp) rfl)
      clear hdep hLi
      go_wp2_with fail
      exact ⟨upd v 13 (.int .i64 ((20 + (ol : Int)) / 4)), by simp [upd, h12], Hb.out, upd_facts HF.out (fun _ _ h => h) rfl⟩
    · -- operation 14
      simp at hoi; subst hoi
      have h13 : v 13 = .int .i64 ((20 + (ol : Int)) / 4) := HF.out 13 (hdep ⟨13, .data⟩ (by simp) rfl)
      clear hdep hLi
      go_wp2_with fail
      exact ⟨upd v 14 (.int .i64 ((20 + (ol : Int)) / 4 * 16)), by simp [upd, h13], Hb.out, upd_facts HF.out (fun _ _ h => h) rfl⟩
    · -- operation 15
      simp at hoi; subst hoi
      have h14 : v 14 = .int .i64 ((20 + (ol : Int)) / 4 * 16) := HF.out 14 (hdep ⟨14, .data⟩ (by simp) rfl)
      clear hdep hLi
      go_wp2_with fail
      exact ⟨upd v 15 (.int .u8 ((20 + (ol : Int)) / 4 * 16)), by simp [upd, h14], Hb.out, upd_facts HF.out (fun _ _ h => h) rfl⟩
    · -- operation 16
      simp at hoi; subst hoi
      clear hdep hLi
      go_wp2_with fail
      exact ⟨upd v 16 (.pointer (some ⟨w.heap.size, 4, none⟩)), by simp [upd], Hb.out, upd_facts HF.out (fun _ _ h => h) rfl⟩
    · -- operation 17
      simp at hoi; subst hoi
      have h16 : v 16 = .pointer (some ⟨w.heap.size, 4, none⟩) := HF.out 16 (hdep ⟨16, .data⟩ (by simp) rfl)
      clear hdep hLi
      go_wp2_with fail
      exact ⟨upd v 17 (.int .u8 fl), by simp [upd, h16], Hb.out, upd_facts HF.out (fun _ _ h => h) rfl⟩
    · -- operation 18
      simp at hoi; subst hoi
      have h15 : v 15 = .int .u8 ((20 + (ol : Int)) / 4 * 16) := HF.out 15 (hdep ⟨15, .data⟩ (by simp) rfl)
      have h17 : v 17 = .int .u8 fl := HF.out 17 (hdep ⟨17, .data⟩ (by simp) rfl)
      clear hdep hLi
      go_wp2_with fail
      exact ⟨upd v 18 (.slice (some ⟨W.heap.size, 0, none⟩) 2 2), by simp [upd, h15, h17], Hb.out.alloc hszW _, upd_facts HF.out (fun j y h => TcpF_mono ((Below.refl _ _).alloc (Nat.le_refl _) _) j y h) ⟨_, rfl, Rd.new3 rfl rfl⟩⟩
    · -- operation 19
      simp at hoi; subst hoi
      clear hdep hLi
      go_wp2_with fail
      exact ⟨upd v 19 (.pointer (some ⟨w.heap.size, 5, none⟩)), by simp [upd], Hb.out, upd_facts HF.out (fun _ _ h => h) rfl⟩
    · -- operation 20
      simp at hoi; subst hoi
      have h19 : v 19 = .pointer (some ⟨w.heap.size, 5, none⟩) := HF.out 19 (hdep ⟨19, .data⟩ (by simp) rfl)
      clear hdep hLi
      go_wp2_with fail
      exact ⟨upd v 20 (.int .u16 win), by simp [upd, h19], Hb.out, upd_facts HF.out (fun _ _ h => h) rfl⟩
    · -- operation 21
      simp at hoi; subst hoi
      clear hdep hLi
      go_wp2_with fail
      exact ⟨upd v 21 (.pointer (some ⟨w.heap.size, 6, none⟩)), by simp [upd], Hb.out, upd_facts HF.out (fun _ _ h => h) rfl⟩
    · -- operation 22
      simp at hoi; subst hoi
      have h21 : v 21 = .pointer (some ⟨w.heap.size, 6, none⟩) := HF.out 21 (hdep ⟨21, .data⟩ (by simp) rfl)
      clear hdep hLi
      go_wp2_with fail
      exact ⟨upd v 22 (.int .u16 urg), by simp [upd, h21], Hb.out, upd_facts HF.out (fun _ _ h => h) rfl⟩
    · -- operation 23
      simp at hoi; subst hoi
      have h20 : v 20 = .int .u16 win := HF.out 20 (hdep ⟨20, .data⟩ (by simp) rfl)
      have h22 : v 22 = .int .u16 urg := HF.out 22 (hdep ⟨22, .data⟩ (by simp) rfl)
      clear hdep hLi
      go_wp2_with fail
      exact ⟨upd v 23 (.slice (some ⟨W.heap.size, 0, none⟩) 3 3), by simp [upd, h20, h22], Hb.out.alloc hszW _, upd_facts HF.out (fun j y h => TcpF_mono ((Below.refl _ _).alloc (Nat.le_refl _) _) j y h) ⟨_, rfl, Rd.new3 rfl rfl⟩⟩
    · -- operation 24
      simp at hoi; subst hoi
      obtain ⟨g23, h23, r23⟩ := (show ∃ g, v 23 = .slice (some ⟨g, 0, none⟩) 3 3 ∧ Rd W W.heap.size (some ⟨g, 0, none⟩) .u16 [win, 0, urg] from HF.out 23 (hdep ⟨23, .data⟩ (by simp) rfl))
      clear hdep hLi
      go_wp2_with fail
      refine (words_any _ 3 [win, 0, urg] _ (by simp) (fun y hy => by simp at hy; rcases hy with rfl | rfl | rfl <;> omega) r23).mono ?_
      rintro e w2 ⟨x2, rfl, ox, lx⟩
      go_wp2_with fail
      exact ⟨upd v 24 x2, by simp [upd, h23], Hb.out.trans (lx.mono hszW), upd_facts HF.out (fun j y h => TcpF_mono lx j y h) (ox.base_le (by omega))⟩
    · -- operation 25
      simp at hoi; subst hoi
      clear hdep hLi
      go_wp2_with fail
      exact ⟨upd v 25 (.pointer (some ⟨w.heap.size, 7, none⟩)), by simp [upd], Hb.out, upd_facts HF.out (fun _ _ h => h) rfl⟩
    · -- operation 26
      simp at hoi; subst hoi
      have h25 : v 25 = .pointer (some ⟨w.heap.size, 7, none⟩) := HF.out 25 (hdep ⟨25, .data⟩ (by simp) rfl)
      clear hdep hLi
      go_wp2_with fail
      exact ⟨upd v 26 (.slice A ol cap), by simp [upd, h25], Hb.out, upd_facts HF.out (fun _ _ h => h) rfl⟩
    · -- operation 27
      simp at hoi; subst hoi
      clear hdep hLi
      go_wp2_with fail
      exact ⟨upd v 27 (.slice D dl dcap), by simp [upd], Hb.out, upd_facts HF.out (fun _ _ h => h) rfl⟩
    · -- operation 28
      simp at hoi; subst hoi
      have o5 : Own W w.heap.size (v 5) (b16s [sp, dp]) := HF.out 5 (hdep ⟨5, .data⟩ (by simp) rfl)
      obtain ⟨A5, c5, h5, r5, _, _⟩ := o5.open_
      have o11 : Own W w.heap.size (v 11) (b32s [seqn, ackn]) := HF.out 11 (hdep ⟨11, .data⟩ (by simp) rfl)
      obtain ⟨A11, c11, h11, r11, _, _⟩ := o11.open_
      obtain ⟨g18, h18, r18⟩ := (show ∃ g, v 18 = .slice (some ⟨g, 0, none⟩) 2 2 ∧ Rd W W.heap.size (some ⟨g, 0, none⟩) .u8 [(20 + (ol : Int)) / 4 * 16, fl] from HF.out 18 (hdep ⟨18, .data⟩ (by simp) rfl))
      have o24 : Own W w.heap.size (v 24) (b16s [win, 0, urg]) := HF.out 24 (hdep ⟨24, .data⟩ (by simp) rfl)
      obtain ⟨A24, c24, h24, r24, _, _⟩ := o24.open_
      have h26 : v 26 = .slice A ol cap := HF.out 26 (hdep ⟨26, .data⟩ (by simp) rfl)
      have h27 : v 27 = .slice D dl dcap := HF.out 27 (hdep ⟨27, .data⟩ (by simp) rfl)
      clear hdep hLi
      go_wp2_with fail
      exact ⟨upd v 28 (.slice (some ⟨W.heap.size, 0, none⟩) 6 6), by simp [upd, h5, h11, h18, h24, h26, h27], Hb.out.alloc hszW _, upd_facts HF.out (fun j y h => TcpF_mono ((Below.refl _ _).alloc (Nat.le_refl _) _) j y h)
        ⟨W.heap.size, [(A5, c5, b16s [sp, dp]), (A11, c11, b32s [seqn, ackn]), (some ⟨g18, 0, none⟩, 2, [(20 + (ol : Int)) / 4 * 16, (fl : Int)]), (A24, c24, b16s [win, 0, urg]), (A, cap, opts), (D, dcap, data)], rfl,
          Parts.new3 rfl (by simp [partV, Hol.out, Hdl.out]) (fun p hp => by
            simp only [List.mem_cons, List.not_mem_nil, or_false] at hp
            rcases hp with rfl | rfl | rfl | rfl | rfl | rfl
            · exact r5
            · exact r11
            · exact r18
            · exact r24
            · exact HrA.out
            · exact HrD.out), rfl, by rw [← HTe.out]; simp [partsL]⟩⟩
    · -- operation 29
      simp at hoi; subst hoi
      obtain ⟨g28, ps, h28, hps, hpl, hpT⟩ := (show ∃ g ps, v 28 = .slice (some ⟨g, 0, none⟩) 6 6 ∧ Parts W W.heap.size (some ⟨g, 0, none⟩) ps ∧ ps.length = 6 ∧ partsL ps = T from HF.out 28 (hdep ⟨28, .data⟩ (by simp) rfl))
      clear hdep hLi
      go_wp2_with fail
      have hcc := concat_any (some ⟨g28, 0, none⟩) 6 ps W (by omega) (by rw [hpT, HTl.out]; omega) hps
      rw [hpl] at hcc
      refine hcc.mono ?_
      rintro e w2 ⟨x2, rfl, ox, lx⟩
      rw [hpT] at ox
      clear hpT hpl hps hcc
      go_wp2_with fail
      exact ⟨upd v 29 x2, by simp [upd, h28], Hb.out.trans (lx.mono hszW), upd_facts HF.out (fun j y h => TcpF_mono lx j y h) (ox.base_le (by omega))⟩
    · -- operation 30
      simp at hoi; subst hoi
      have o29 : Own W w.heap.size (v 29) (T) := HF.out 29 (hdep ⟨29, .data⟩ (by simp) rfl)
      clear hdep hLi
      go_wp2_with fail
      exact ⟨upd v 30 (v 29), by simp [upd], Hb.out, upd_facts HF.out (fun _ _ h => h) o29⟩

end Go.Proofs.YtebeekjcepjcnaaGreatDoor
