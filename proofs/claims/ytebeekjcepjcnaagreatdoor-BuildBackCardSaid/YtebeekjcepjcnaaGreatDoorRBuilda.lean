/-
  Package build: what is right for a segment, a datagram.
-/
import Derived.Test.YtebeekjcepjcnaaGreatDoorRIpback
namespace Go.Proofs.YtebeekjcepjcnaaGreatDoor
open Go.RowKit

def UdpF (b : Nat) (k0 k1 k2 k3 k4 kind _flags _type _code _seqn _ackn _window length : Int) : Nat → Value → Prop
  | 0, x => x = .pointer (some ⟨b, 0, none⟩)
  | 1, x => x = .pointer (some ⟨b, 5, none⟩)
  | 2, x => x = .int .u8 kind
  | 3, x => x = .pointer (some ⟨b, 0, none⟩)
  | 4, x => x = .pointer (some ⟨b, 0, none⟩)
  | 5, x => x = .agg #[.int .u8 k0, .int .u32 k1, .int .u32 k2, .int .u16 k3, .int .u16 k4]
  | 6, x => x = .pointer (some ⟨b, 0, none⟩)
  | 7, x => x = .pointer (some ⟨b, 12, none⟩)
  | 8, x => x = .int .i64 length
  | 9, x => x = .agg #[.int .u8 k0, .int .u32 k1, .int .u32 k2, .int .u16 k3, .int .u16 k4, .int .u8 kind, .int .u8 0, .int .u8 0, .int .u8 0, .int .u32 0, .int .u32 0, .int .i64 0, .int .i64 length, .int .u8 0, .int .u32 0, .int .u32 0, .int .u16 0, .int .u16 0, .int .u8 0]
  | 10, x => x = .agg #[.int .u8 k0, .int .u32 k1, .int .u32 k2, .int .u16 k3, .int .u16 k4, .int .u8 kind, .int .u8 0, .int .u8 0, .int .u8 0, .int .u32 0, .int .u32 0, .int .i64 0, .int .i64 length, .int .u8 0, .int .u32 0, .int .u32 0, .int .u16 0, .int .u16 0, .int .u8 0]
  | 11, x => x = .pointer (some ⟨b, 0, none⟩)
  | 12, x => x = .pointer (some ⟨b, 0, none⟩)
  | 13, x => x = .agg #[.int .u8 k0, .int .u32 k1, .int .u32 k2, .int .u16 k3, .int .u16 k4]
  | 14, x => x = .bool (Key.ported ⟨k0, k1, k2, k3, k4⟩)
  | 15, x => x = .bool (Key.ported ⟨k0, k1, k2, k3, k4⟩)
  | 16, x => (Key.ported ⟨k0, k1, k2, k3, k4⟩) = true → x = .pointer (some ⟨b, 0, none⟩)
  | 17, x => (Key.ported ⟨k0, k1, k2, k3, k4⟩) = true → x = .pointer (some ⟨b, 12, none⟩)
  | 18, x => (Key.ported ⟨k0, k1, k2, k3, k4⟩) = true → x = .int .i64 length
  | 19, x => (Key.ported ⟨k0, k1, k2, k3, k4⟩) = true → x = .bool (betweenB length 0 65507)
  | 20, x => x = .bool ((Key.ported ⟨k0, k1, k2, k3, k4⟩) && (betweenB length 0 65507))
  | 21, _ => True
  | 22, x => x = .bool ((Key.ported ⟨k0, k1, k2, k3, k4⟩) && (betweenB length 0 65507))
  | _, _ => True

set_option maxRecDepth 100000 in
set_option maxHeartbeats 4000000 in
theorem rightUDP_any (f : Facts) (w : World) :
    Calls Tryz.prog 44 #[f.val] w fun e w' => e = .returned (.tuple #[f.udpPart.val, .bool f.rightUDP]) ∧ Below w.heap.size w w' := by
  obtain ⟨⟨k0, k1, k2, k3, k4⟩, kind, flags, type, code, seqn, ackn, window, length, ⟨q0, q1, q2, q3, q4⟩, qkind⟩ := f
  dsimp only [Facts.udpPart, Facts.rightUDP, Facts.zero, Key.zero, Facts.val, Facts.cells, Key.cells, List.cons_append, List.nil_append]
  go_enter Tryz.func44, Tryz.ntmps44
  go_upto_region 1 with (first | ((with_reducible refine look_store ?_); refine wpList_store_new rfl _ _ _ rfl _ _ rfl rfl _ _ (by first | (simp only [World.size_alloc] <;> omega) | rfl | omega) (by kernel_rfl) (by simp) (by simp [Value.oneCell']) ?_) | fail)
  have bl0 := (Blk.new w 72 #[.int .u8 k0, .int .u32 k1, .int .u32 k2, .int .u16 k3, .int .u16 k4, .int .u8 kind, .int .u8 flags, .int .u8 type, .int .u8 code, .int .u32 seqn, .int .u32 ackn, .int .i64 window, .int .i64 length, .int .u8 q0, .int .u32 q1, .int .u32 q2, .int .u16 q3, .int .u16 q4, .int .u8 qkind]).alloc (.cells #[.int .u8 0, .int .u32 0, .int .u32 0, .int .u16 0, .int .u16 0, .int .u8 0, .int .u8 0, .int .u8 0, .int .u8 0, .int .u32 0, .int .u32 0, .int .i64 0, .int .i64 0, .int .u8 0, .int .u32 0, .int .u32 0, .int .u16 0, .int .u16 0, .int .u8 0] 72)
  have bl1 := Blk.new (w.alloc (.cells #[.int .u8 k0, .int .u32 k1, .int .u32 k2, .int .u16 k3, .int .u16 k4, .int .u8 kind, .int .u8 flags, .int .u8 type, .int .u8 code, .int .u32 seqn, .int .u32 ackn, .int .i64 window, .int .i64 length, .int .u8 q0, .int .u32 q1, .int .u32 q2, .int .u16 q3, .int .u16 q4, .int .u8 qkind] 72)) 72 #[.int .u8 0, .int .u32 0, .int .u32 0, .int .u16 0, .int .u16 0, .int .u8 0, .int .u8 0, .int .u8 0, .int .u8 0, .int .u32 0, .int .u32 0, .int .i64 0, .int .i64 0, .int .u8 0, .int .u32 0, .int .u32 0, .int .u16 0, .int .u16 0, .int .u8 0]
  simp only [World.size_alloc] at bl1
  have hb0 : Below w.heap.size w ((w.alloc (.cells #[.int .u8 k0, .int .u32 k1, .int .u32 k2, .int .u16 k3, .int .u16 k4, .int .u8 kind, .int .u8 flags, .int .u8 type, .int .u8 code, .int .u32 seqn, .int .u32 ackn, .int .i64 window, .int .i64 length, .int .u8 q0, .int .u32 q1, .int .u32 q2, .int .u16 q3, .int .u16 q4, .int .u8 qkind] 72)).alloc (.cells #[.int .u8 0, .int .u32 0, .int .u32 0, .int .u16 0, .int .u16 0, .int .u8 0, .int .u8 0, .int .u8 0, .int .u8 0, .int .u32 0, .int .u32 0, .int .i64 0, .int .i64 0, .int .u8 0, .int .u32 0, .int .u32 0, .int .u16 0, .int .u16 0, .int .u8 0] 72)) := ((Below.refl _ _).alloc (Nat.le_refl _) _).alloc (by simp) _
  have hs_wr : ((w.alloc (.cells #[.int .u8 k0, .int .u32 k1, .int .u32 k2, .int .u16 k3, .int .u16 k4, .int .u8 kind, .int .u8 flags, .int .u8 type, .int .u8 code, .int .u32 seqn, .int .u32 ackn, .int .i64 window, .int .i64 length, .int .u8 q0, .int .u32 q1, .int .u32 q2, .int .u16 q3, .int .u16 q4, .int .u8 qkind] 72)).alloc (.cells #[.int .u8 0, .int .u32 0, .int .u32 0, .int .u16 0, .int .u16 0, .int .u8 0, .int .u8 0, .int .u8 0, .int .u8 0, .int .u32 0, .int .u32 0, .int .i64 0, .int .i64 0, .int .u8 0, .int .u32 0, .int .u32 0, .int .u16 0, .int .u16 0, .int .u8 0] 72)).heap.size = w.heap.size + 2 := by simp
  generalize ((w.alloc (.cells #[.int .u8 k0, .int .u32 k1, .int .u32 k2, .int .u16 k3, .int .u16 k4, .int .u8 kind, .int .u8 flags, .int .u8 type, .int .u8 code, .int .u32 seqn, .int .u32 ackn, .int .i64 window, .int .i64 length, .int .u8 q0, .int .u32 q1, .int .u32 q2, .int .u16 q3, .int .u16 q4, .int .u8 qkind] 72)).alloc (.cells #[.int .u8 0, .int .u32 0, .int .u32 0, .int .u16 0, .int .u16 0, .int .u8 0, .int .u8 0, .int .u8 0, .int .u8 0, .int .u32 0, .int .u32 0, .int .i64 0, .int .i64 0, .int .u8 0, .int .u32 0, .int .u32 0, .int .u16 0, .int .u16 0, .int .u8 0] 72)) = wr at *
  have hsz0 := hb0.size
  refine wp_region_inv (by kernel_rfl) (depsOk_spec (by kernel_rfl)) (fun L a W => ∃ v : Nat → Value, a = { tmps := #[.agg #[.int .u8 k0, .int .u32 k1, .int .u32 k2, .int .u16 k3, .int .u16 k4, .int .u8 kind, .int .u8 flags, .int .u8 type, .int .u8 code, .int .u32 seqn, .int .u32 ackn, .int .i64 window, .int .i64 length, .int .u8 q0, .int .u32 q1, .int .u32 q2, .int .u16 q3, .int .u16 q4, .int .u8 qkind], .pointer (some ⟨w.heap.size, 0, none⟩), .pointer (some ⟨w.heap.size + 1, 0, none⟩), v 22, v 0, v 1, v 2, v 3, v 4, v 5, v 6, v 7, v 8, v 9, v 10, v 11, v 12, v 13, v 14, v 15, v 16, v 17, v 18, v 19, v 20], defers := [] } ∧ Below (w.heap.size) (wr) W ∧ Blk W (w.heap.size) 72 #[.int .u8 k0, .int .u32 k1, .int .u32 k2, .int .u16 k3, .int .u16 k4, .int .u8 kind, .int .u8 flags, .int .u8 type, .int .u8 code, .int .u32 seqn, .int .u32 ackn, .int .i64 window, .int .i64 length, .int .u8 q0, .int .u32 q1, .int .u32 q2, .int .u16 q3, .int .u16 q4, .int .u8 qkind] ∧ Blk W (w.heap.size + 1) 72 (stSel (L 21) #[.int .u8 k0, .int .u32 k1, .int .u32 k2, .int .u16 k3, .int .u16 k4, .int .u8 kind, .int .u8 0, .int .u8 0, .int .u8 0, .int .u32 0, .int .u32 0, .int .i64 0, .int .i64 length, .int .u8 0, .int .u32 0, .int .u32 0, .int .u16 0, .int .u16 0, .int .u8 0] #[.int .u8 0, .int .u32 0, .int .u32 0, .int .u16 0, .int .u16 0, .int .u8 0, .int .u8 0, .int .u8 0, .int .u8 0, .int .u32 0, .int .u32 0, .int .i64 0, .int .i64 0, .int .u8 0, .int .u32 0, .int .u32 0, .int .u16 0, .int .u16 0, .int .u8 0]) ∧ ∀ j, L j = true → UdpF w.heap.size k0 k1 k2 k3 k4 kind flags type code seqn ackn window length j (v j)) ?h0 ?hstep ?hend
  case hstep =>
    intro L a W i o hoi hLi hdep ⟨v, ha, hb, hk0, hst, hF⟩
    subst ha
    have hi : i < 23 := (Array.getElem?_eq_some_iff.1 hoi).1
    have HF := Lib.hid hF
    have Hb := Lib.hid hb
    have hszW := Nat.le_trans hsz0 hb.size
    have Hhk0 := Lib.hid hk0
    have Hhst := Lib.hid hst
    clear hF hb hk0 hst
    rcases (show i = 0 ∨ i = 1 ∨ i = 2 ∨ i = 3 ∨ i = 4 ∨ i = 5 ∨ i = 6 ∨ i = 7 ∨ i = 8 ∨ i = 9 ∨ i = 10 ∨ i = 11 ∨ i = 12 ∨ i = 13 ∨ i = 14 ∨ i = 15 ∨ i = 16 ∨ i = 17 ∨ i = 18 ∨ i = 19 ∨ i = 20 ∨ i = 21 ∨ i = 22 by omega) with rfl | rfl | rfl | rfl | rfl | rfl | rfl | rfl | rfl | rfl | rfl | rfl | rfl | rfl | rfl | rfl | rfl | rfl | rfl | rfl | rfl | rfl | rfl
    · -- operation 0: fieldAddr
      simp at hoi; subst hoi
      clear hdep hLi
      go_wp2_with fail
      exact ⟨upd v 0 (.pointer (some ⟨w.heap.size, 0, none⟩)), by simp [upd], Hb.out, Hhk0.out, (by simpa using Hhst.out), upd_vals HF.out (rfl)⟩
    · -- operation 1: fieldAddr
      simp at hoi; subst hoi
      have h0 : v 0 = .pointer (some ⟨w.heap.size, 0, none⟩) := HF.out 0 (hdep ⟨0, .data⟩ (by simp) rfl)
      clear hdep hLi
      go_wp2_with fail
      exact ⟨upd v 1 (.pointer (some ⟨w.heap.size, 5, none⟩)), by simp [upd, h0], Hb.out, Hhk0.out, (by simpa using Hhst.out), upd_vals HF.out (rfl)⟩
    · -- operation 2: load
      simp at hoi; subst hoi
      have h1 : v 1 = .pointer (some ⟨w.heap.size, 5, none⟩) := HF.out 1 (hdep ⟨1, .data⟩ (by simp) rfl)
      have hcx := Hhk0.out.cell
      clear hdep hLi
      go_wp2_with fail
      exact ⟨upd v 2 (.int .u8 kind), by simp [upd, h1], Hb.out, Hhk0.out, (by simpa using Hhst.out), upd_vals HF.out (rfl)⟩
    · -- operation 3: fieldAddr
      simp at hoi; subst hoi
      clear hdep hLi
      go_wp2_with fail
      exact ⟨upd v 3 (.pointer (some ⟨w.heap.size, 0, none⟩)), by simp [upd], Hb.out, Hhk0.out, (by simpa using Hhst.out), upd_vals HF.out (rfl)⟩
    · -- operation 4: fieldAddr
      simp at hoi; subst hoi
      have h3 : v 3 = .pointer (some ⟨w.heap.size, 0, none⟩) := HF.out 3 (hdep ⟨3, .data⟩ (by simp) rfl)
      clear hdep hLi
      go_wp2_with fail
      exact ⟨upd v 4 (.pointer (some ⟨w.heap.size, 0, none⟩)), by simp [upd, h3], Hb.out, Hhk0.out, (by simpa using Hhst.out), upd_vals HF.out (rfl)⟩
    · -- operation 5: load
      simp at hoi; subst hoi
      have h4 : v 4 = .pointer (some ⟨w.heap.size, 0, none⟩) := HF.out 4 (hdep ⟨4, .data⟩ (by simp) rfl)
      have hcx := Hhk0.out.cell
      clear hdep hLi
      go_wp2_with fail
      exact ⟨upd v 5 (.agg #[.int .u8 k0, .int .u32 k1, .int .u32 k2, .int .u16 k3, .int .u16 k4]), by simp [upd, h4], Hb.out, Hhk0.out, (by simpa using Hhst.out), upd_vals HF.out (rfl)⟩
    · -- operation 6: fieldAddr
      simp at hoi; subst hoi
      clear hdep hLi
      go_wp2_with fail
      exact ⟨upd v 6 (.pointer (some ⟨w.heap.size, 0, none⟩)), by simp [upd], Hb.out, Hhk0.out, (by simpa using Hhst.out), upd_vals HF.out (rfl)⟩
    · -- operation 7: fieldAddr
      simp at hoi; subst hoi
      have h6 : v 6 = .pointer (some ⟨w.heap.size, 0, none⟩) := HF.out 6 (hdep ⟨6, .data⟩ (by simp) rfl)
      clear hdep hLi
      go_wp2_with fail
      exact ⟨upd v 7 (.pointer (some ⟨w.heap.size, 12, none⟩)), by simp [upd, h6], Hb.out, Hhk0.out, (by simpa using Hhst.out), upd_vals HF.out (rfl)⟩
    · -- operation 8: load
      simp at hoi; subst hoi
      have h7 : v 7 = .pointer (some ⟨w.heap.size, 12, none⟩) := HF.out 7 (hdep ⟨7, .data⟩ (by simp) rfl)
      have hcx := Hhk0.out.cell
      clear hdep hLi
      go_wp2_with fail
      exact ⟨upd v 8 (.int .i64 length), by simp [upd, h7], Hb.out, Hhk0.out, (by simpa using Hhst.out), upd_vals HF.out (rfl)⟩
    · -- operation 9: build
      simp at hoi; subst hoi
      have h2 : v 2 = .int .u8 kind := HF.out 2 (hdep ⟨2, .data⟩ (by simp) rfl)
      have h5 : v 5 = .agg #[.int .u8 k0, .int .u32 k1, .int .u32 k2, .int .u16 k3, .int .u16 k4] := HF.out 5 (hdep ⟨5, .data⟩ (by simp) rfl)
      have h8 : v 8 = .int .i64 length := HF.out 8 (hdep ⟨8, .data⟩ (by simp) rfl)
      clear hdep hLi
      go_wp2_with fail
      exact ⟨upd v 9 (.agg #[.int .u8 k0, .int .u32 k1, .int .u32 k2, .int .u16 k3, .int .u16 k4, .int .u8 kind, .int .u8 0, .int .u8 0, .int .u8 0, .int .u32 0, .int .u32 0, .int .i64 0, .int .i64 length, .int .u8 0, .int .u32 0, .int .u32 0, .int .u16 0, .int .u16 0, .int .u8 0]), by simp [upd, h2, h5, h8], Hb.out, Hhk0.out, (by simpa using Hhst.out), upd_vals HF.out (rfl)⟩
    · -- operation 10: build
      simp at hoi; subst hoi
      have h9 : v 9 = .agg #[.int .u8 k0, .int .u32 k1, .int .u32 k2, .int .u16 k3, .int .u16 k4, .int .u8 kind, .int .u8 0, .int .u8 0, .int .u8 0, .int .u32 0, .int .u32 0, .int .i64 0, .int .i64 length, .int .u8 0, .int .u32 0, .int .u32 0, .int .u16 0, .int .u16 0, .int .u8 0] := HF.out 9 (hdep ⟨9, .data⟩ (by simp) rfl)
      clear hdep hLi
      go_wp2_with fail
      exact ⟨upd v 10 (.agg #[.int .u8 k0, .int .u32 k1, .int .u32 k2, .int .u16 k3, .int .u16 k4, .int .u8 kind, .int .u8 0, .int .u8 0, .int .u8 0, .int .u32 0, .int .u32 0, .int .i64 0, .int .i64 length, .int .u8 0, .int .u32 0, .int .u32 0, .int .u16 0, .int .u16 0, .int .u8 0]), by simp [upd, h9], Hb.out, Hhk0.out, (by simpa using Hhst.out), upd_vals HF.out (rfl)⟩
    · -- operation 11: fieldAddr
      simp at hoi; subst hoi
      clear hdep hLi
      go_wp2_with fail
      exact ⟨upd v 11 (.pointer (some ⟨w.heap.size, 0, none⟩)), by simp [upd], Hb.out, Hhk0.out, (by simpa using Hhst.out), upd_vals HF.out (rfl)⟩
    · -- operation 12: fieldAddr
      simp at hoi; subst hoi
      have h11 : v 11 = .pointer (some ⟨w.heap.size, 0, none⟩) := HF.out 11 (hdep ⟨11, .data⟩ (by simp) rfl)
      clear hdep hLi
      go_wp2_with fail
      exact ⟨upd v 12 (.pointer (some ⟨w.heap.size, 0, none⟩)), by simp [upd, h11], Hb.out, Hhk0.out, (by simpa using Hhst.out), upd_vals HF.out (rfl)⟩
    · -- operation 13: load
      simp at hoi; subst hoi
      have h12 : v 12 = .pointer (some ⟨w.heap.size, 0, none⟩) := HF.out 12 (hdep ⟨12, .data⟩ (by simp) rfl)
      have hcx := Hhk0.out.cell
      clear hdep hLi
      go_wp2_with fail
      exact ⟨upd v 13 (.agg #[.int .u8 k0, .int .u32 k1, .int .u32 k2, .int .u16 k3, .int .u16 k4]), by simp [upd, h12], Hb.out, Hhk0.out, (by simpa using Hhst.out), upd_vals HF.out (rfl)⟩
    · -- operation 14: call
      simp at hoi; subst hoi
      have h13 : v 13 = .agg #[.int .u8 k0, .int .u32 k1, .int .u32 k2, .int .u16 k3, .int .u16 k4] := HF.out 13 (hdep ⟨13, .data⟩ (by simp) rfl)
      clear hdep hLi
      go_wp2_with fail
      refine (ported_any ⟨k0, k1, k2, k3, k4⟩ _).mono ?_
      rintro e w2 ⟨rfl, l2⟩
      go_wp2_with fail
      exact ⟨upd v 14 (.bool (Key.ported ⟨k0, k1, k2, k3, k4⟩)), by simp [upd, h13], Hb.out.trans (l2.mono hszW), Hhk0.out.below l2 Hhk0.out.lt, (by simpa using Hhst.out.below l2 Hhst.out.lt), upd_vals HF.out (rfl)⟩
    · -- operation 15: move
      simp at hoi; subst hoi
      have h14 : v 14 = .bool (Key.ported ⟨k0, k1, k2, k3, k4⟩) := HF.out 14 (hdep ⟨14, .data⟩ (by simp) rfl)
      clear hdep hLi
      go_wp2_with fail
      exact ⟨upd v 15 (.bool (Key.ported ⟨k0, k1, k2, k3, k4⟩)), by simp [upd, h14], Hb.out, Hhk0.out, (by simpa using Hhst.out), upd_vals HF.out (rfl)⟩
    · -- operation 16: fieldAddr
      simp at hoi; subst hoi
      have hgv : v 15 = .bool (Key.ported ⟨k0, k1, k2, k3, k4⟩) := HF.out 15 (hdep ⟨15, .guard⟩ (by simp) rfl)
      by_cases hg : (Key.ported ⟨k0, k1, k2, k3, k4⟩) = true
      · rw [hg] at hgv
        clear hdep hLi
        go_wp2_with fail
        exact ⟨upd v 16 (.pointer (some ⟨w.heap.size, 0, none⟩)), by simp [upd, hgv], Hb.out, Hhk0.out, (by simpa using Hhst.out), upd_vals HF.out (fun _ => rfl)⟩
      · have hg2 : (Key.ported ⟨k0, k1, k2, k3, k4⟩) = false := by simpa using hg
        rw [hg2] at hgv
        clear hdep hLi
        go_wp2_with fail
        exact ⟨upd v 16 undef, by simp [upd, hgv], Hb.out, Hhk0.out, (by simpa using Hhst.out), upd_vals HF.out (fun h => absurd h hg)⟩
    · -- operation 17: fieldAddr
      simp at hoi; subst hoi
      have hgv : v 15 = .bool (Key.ported ⟨k0, k1, k2, k3, k4⟩) := HF.out 15 (hdep ⟨15, .guard⟩ (by simp) rfl)
      by_cases hg : (Key.ported ⟨k0, k1, k2, k3, k4⟩) = true
      · rw [hg] at hgv
        have h16 : v 16 = .pointer (some ⟨w.heap.size, 0, none⟩) := HF.out 16 (hdep ⟨16, .data⟩ (by simp) rfl) hg
        clear hdep hLi
        go_wp2_with fail
        exact ⟨upd v 17 (.pointer (some ⟨w.heap.size, 12, none⟩)), by simp [upd, h16, hgv], Hb.out, Hhk0.out, (by simpa using Hhst.out), upd_vals HF.out (fun _ => rfl)⟩
      · have hg2 : (Key.ported ⟨k0, k1, k2, k3, k4⟩) = false := by simpa using hg
        rw [hg2] at hgv
        clear hdep hLi
        go_wp2_with fail
        exact ⟨upd v 17 undef, by simp [upd, hgv], Hb.out, Hhk0.out, (by simpa using Hhst.out), upd_vals HF.out (fun h => absurd h hg)⟩
    · -- operation 18: load
      simp at hoi; subst hoi
      have hgv : v 15 = .bool (Key.ported ⟨k0, k1, k2, k3, k4⟩) := HF.out 15 (hdep ⟨15, .guard⟩ (by simp) rfl)
      by_cases hg : (Key.ported ⟨k0, k1, k2, k3, k4⟩) = true
      · rw [hg] at hgv
        have h17 : v 17 = .pointer (some ⟨w.heap.size, 12, none⟩) := HF.out 17 (hdep ⟨17, .data⟩ (by simp) rfl) hg
        have hcx := Hhk0.out.cell
        clear hdep hLi
        go_wp2_with fail
        exact ⟨upd v 18 (.int .i64 length), by simp [upd, h17, hgv], Hb.out, Hhk0.out, (by simpa using Hhst.out), upd_vals HF.out (fun _ => rfl)⟩
      · have hg2 : (Key.ported ⟨k0, k1, k2, k3, k4⟩) = false := by simpa using hg
        rw [hg2] at hgv
        clear hdep hLi
        go_wp2_with fail
        exact ⟨upd v 18 undef, by simp [upd, hgv], Hb.out, Hhk0.out, (by simpa using Hhst.out), upd_vals HF.out (fun h => absurd h hg)⟩
    · -- operation 19: call
      simp at hoi; subst hoi
      have hgv : v 15 = .bool (Key.ported ⟨k0, k1, k2, k3, k4⟩) := HF.out 15 (hdep ⟨15, .guard⟩ (by simp) rfl)
      by_cases hg : (Key.ported ⟨k0, k1, k2, k3, k4⟩) = true
      · rw [hg] at hgv
        have h18 : v 18 = .int .i64 length := HF.out 18 (hdep ⟨18, .data⟩ (by simp) rfl) hg
        clear hdep hLi
        go_wp2_with fail
        refine (between_any _ _ _ _).mono ?_
        rintro e w2 ⟨rfl, rfl⟩
        go_wp2_with fail
        exact ⟨upd v 19 (.bool (betweenB length 0 65507)), by simp [upd, h18, hgv], Hb.out, Hhk0.out, (by simpa using Hhst.out), upd_vals HF.out (fun _ => rfl)⟩
      · have hg2 : (Key.ported ⟨k0, k1, k2, k3, k4⟩) = false := by simpa using hg
        rw [hg2] at hgv
        clear hdep hLi
        go_wp2_with fail
        exact ⟨upd v 19 undef, by simp [upd, hgv], Hb.out, Hhk0.out, (by simpa using Hhst.out), upd_vals HF.out (fun h => absurd h hg)⟩
    · -- operation 20: pick
      simp at hoi; subst hoi
      by_cases hg : (Key.ported ⟨k0, k1, k2, k3, k4⟩) = true
      ·
        have h15 : v 15 = .bool (Key.ported ⟨k0, k1, k2, k3, k4⟩) := HF.out 15 (hdep ⟨15, .data⟩ (by simp) rfl)
        have h19 : v 19 = .bool (betweenB length 0 65507) := HF.out 19 (hdep ⟨19, .data⟩ (by simp) rfl) hg
        clear hdep hLi
        go_wp2_with fail
        exact ⟨upd v 20 (.bool ((Key.ported ⟨k0, k1, k2, k3, k4⟩) && (betweenB length 0 65507))), by simp [upd, h15, h19, hg], Hb.out, Hhk0.out, (by simpa using Hhst.out), upd_vals HF.out (rfl)⟩
      · have hg2 : (Key.ported ⟨k0, k1, k2, k3, k4⟩) = false := by simpa using hg
        have h15 : v 15 = .bool (Key.ported ⟨k0, k1, k2, k3, k4⟩) := HF.out 15 (hdep ⟨15, .data⟩ (by simp) rfl)
        clear hdep hLi
        go_wp2_with fail
        exact ⟨upd v 20 (.bool ((Key.ported ⟨k0, k1, k2, k3, k4⟩) && (betweenB length 0 65507))), by simp [upd, h15, hg2], Hb.out, Hhk0.out, (by simpa using Hhst.out), upd_vals HF.out (rfl)⟩
    · -- operation 21: store
      simp at hoi; subst hoi
      have h10 : v 10 = .agg #[.int .u8 k0, .int .u32 k1, .int .u32 k2, .int .u16 k3, .int .u16 k4, .int .u8 kind, .int .u8 0, .int .u8 0, .int .u8 0, .int .u32 0, .int .u32 0, .int .i64 0, .int .i64 length, .int .u8 0, .int .u32 0, .int .u32 0, .int .u16 0, .int .u16 0, .int .u8 0] := HF.out 10 (hdep ⟨10, .data⟩ (by simp) rfl)
      have hst := Hhst.out
      rw [hLi, stSel_no] at hst
      clear hdep hLi
      refine wpList_store_row rfl 72 (.tmp 2) (.tmp 14) rfl (w.heap.size + 1) #[.int .u8 k0, .int .u32 k1, .int .u32 k2, .int .u16 k3, .int .u16 k4, .int .u8 kind, .int .u8 0, .int .u8 0, .int .u8 0, .int .u32 0, .int .u32 0, .int .i64 0, .int .i64 length, .int .u8 0, .int .u32 0, .int .u32 0, .int .u16 0, .int .u16 0, .int .u8 0] rfl (by simp [Act.eval, h10]) _ _ hst (by kernel_rfl) (by simp) (by simp [Value.oneCell']) ?_
      go_wp2_with fail
      exact ⟨upd v 21 undef, by simp [Act.put, upd, h10], below_setRow Hb.out (by omega) _, (setRow_other _ _ _ _ (by omega)).trans Hhk0.out, setRow_heap _ _ _ #[.int .u8 k0, .int .u32 k1, .int .u32 k2, .int .u16 k3, .int .u16 k4, .int .u8 kind, .int .u8 0, .int .u8 0, .int .u8 0, .int .u32 0, .int .u32 0, .int .i64 0, .int .i64 length, .int .u8 0, .int .u32 0, .int .u32 0, .int .u16 0, .int .u16 0, .int .u8 0] _ _ hst, upd_vals HF.out trivial⟩
    · -- operation 22: assign
      simp at hoi; subst hoi
      have h20 : v 20 = .bool ((Key.ported ⟨k0, k1, k2, k3, k4⟩) && (betweenB length 0 65507)) := HF.out 20 (hdep ⟨20, .data⟩ (by simp) rfl)
      clear hdep hLi
      go_wp2_with fail
      exact ⟨upd v 22 (.bool ((Key.ported ⟨k0, k1, k2, k3, k4⟩) && (betweenB length 0 65507))), by simp [upd, h20], Hb.out, Hhk0.out, (by simpa using Hhst.out), upd_vals HF.out (rfl)⟩
  case h0 => exact ⟨fun j => if j = 22 then .bool false else undef, rfl, (Below.refl _ _).drew, bl0.drew, bl1.drew, fun j hj => by cases hj⟩
  case hend =>
    intro L a W hL ⟨v, ha, hb, hk0, hst, hF⟩
    have hl : v 22 = .bool ((Key.ported ⟨k0, k1, k2, k3, k4⟩) && (betweenB length 0 65507)) := hF 22 (hL 22 (by decide))
    rw [hL 21 (by decide), stSel_yes] at hst
    subst ha
    clear hF hL hk0
    go_wp2_with fail
    refine bodyPost_ret (v := .tuple #[.agg #[.int .u8 k0, .int .u32 k1, .int .u32 k2, .int .u16 k3, .int .u16 k4, .int .u8 kind, .int .u8 0, .int .u8 0, .int .u8 0, .int .u32 0, .int .u32 0, .int .i64 0, .int .i64 length, .int .u8 0, .int .u32 0, .int .u32 0, .int .u16 0, .int .u16 0, .int .u8 0], .bool ((Key.ported ⟨k0, k1, k2, k3, k4⟩) && (betweenB length 0 65507))]) ((results_cell_tmp Tryz.results44 _ _ _ _ _ _ _ rfl hst Tryz.underlying72 rfl (by kernel_rfl)).trans ?_) rfl ⟨rfl, hb0.trans hb⟩
    simp [hl]

def TcpRF (b : Nat) (k0 k1 k2 k3 k4 kind flags _type _code seqn ackn window length : Int) : Nat → Value → Prop
  | 0, x => x = .agg #[.int .u8 k0, .int .u32 k1, .int .u32 k2, .int .u16 k3, .int .u16 k4, .int .u8 kind, .int .u8 flags, .int .u8 0, .int .u8 0, .int .u32 seqn, .int .u32 ackn, .int .i64 window, .int .i64 length, .int .u8 0, .int .u32 0, .int .u32 0, .int .u16 0, .int .u16 0, .int .u8 0]
  | 1, x => x = .pointer (some ⟨b, 0, none⟩)
  | 2, x => x = .pointer (some ⟨b, 0, none⟩)
  | 3, x => x = .agg #[.int .u8 k0, .int .u32 k1, .int .u32 k2, .int .u16 k3, .int .u16 k4]
  | 4, x => x = .bool (Key.ported ⟨k0, k1, k2, k3, k4⟩)
  | 5, x => x = .bool (Key.ported ⟨k0, k1, k2, k3, k4⟩)
  | 6, x => (Key.ported ⟨k0, k1, k2, k3, k4⟩) = true → x = .pointer (some ⟨b, 0, none⟩)
  | 7, x => (Key.ported ⟨k0, k1, k2, k3, k4⟩) = true → x = .pointer (some ⟨b, 6, none⟩)
  | 8, x => (Key.ported ⟨k0, k1, k2, k3, k4⟩) = true → x = .int .u8 flags
  | 9, x => (Key.ported ⟨k0, k1, k2, k3, k4⟩) = true → x = .bool (decide (flags < 64))
  | 10, x => x = .bool ((Key.ported ⟨k0, k1, k2, k3, k4⟩) && (decide (flags < 64)))
  | 11, x => x = .bool ((Key.ported ⟨k0, k1, k2, k3, k4⟩) && (decide (flags < 64)))
  | 12, x => ((Key.ported ⟨k0, k1, k2, k3, k4⟩) && (decide (flags < 64))) = true → x = .pointer (some ⟨b, 0, none⟩)
  | 13, x => ((Key.ported ⟨k0, k1, k2, k3, k4⟩) && (decide (flags < 64))) = true → x = .pointer (some ⟨b, 6, none⟩)
  | 14, x => ((Key.ported ⟨k0, k1, k2, k3, k4⟩) && (decide (flags < 64))) = true → x = .int .u8 flags
  | 15, x => ((Key.ported ⟨k0, k1, k2, k3, k4⟩) && (decide (flags < 64))) = true → x = .bool (saneB flags.toNat)
  | 16, x => x = .bool (((Key.ported ⟨k0, k1, k2, k3, k4⟩) && (decide (flags < 64))) && (saneB flags.toNat))
  | 17, x => x = .bool (((Key.ported ⟨k0, k1, k2, k3, k4⟩) && (decide (flags < 64))) && (saneB flags.toNat))
  | 18, x => (((Key.ported ⟨k0, k1, k2, k3, k4⟩) && (decide (flags < 64))) && (saneB flags.toNat)) = true → x = .pointer (some ⟨b, 0, none⟩)
  | 19, x => (((Key.ported ⟨k0, k1, k2, k3, k4⟩) && (decide (flags < 64))) && (saneB flags.toNat)) = true → x = .pointer (some ⟨b, 11, none⟩)
  | 20, x => (((Key.ported ⟨k0, k1, k2, k3, k4⟩) && (decide (flags < 64))) && (saneB flags.toNat)) = true → x = .int .i64 window
  | 21, x => (((Key.ported ⟨k0, k1, k2, k3, k4⟩) && (decide (flags < 64))) && (saneB flags.toNat)) = true → x = .bool (betweenB window 0 65535)
  | 22, x => x = .bool ((((Key.ported ⟨k0, k1, k2, k3, k4⟩) && (decide (flags < 64))) && (saneB flags.toNat)) && (betweenB window 0 65535))
  | 23, x => x = .bool ((((Key.ported ⟨k0, k1, k2, k3, k4⟩) && (decide (flags < 64))) && (saneB flags.toNat)) && (betweenB window 0 65535))
  | 24, x => ((((Key.ported ⟨k0, k1, k2, k3, k4⟩) && (decide (flags < 64))) && (saneB flags.toNat)) && (betweenB window 0 65535)) = true → x = .pointer (some ⟨b, 0, none⟩)
  | 25, x => ((((Key.ported ⟨k0, k1, k2, k3, k4⟩) && (decide (flags < 64))) && (saneB flags.toNat)) && (betweenB window 0 65535)) = true → x = .pointer (some ⟨b, 12, none⟩)
  | 26, x => ((((Key.ported ⟨k0, k1, k2, k3, k4⟩) && (decide (flags < 64))) && (saneB flags.toNat)) && (betweenB window 0 65535)) = true → x = .int .i64 length
  | 27, x => ((((Key.ported ⟨k0, k1, k2, k3, k4⟩) && (decide (flags < 64))) && (saneB flags.toNat)) && (betweenB window 0 65535)) = true → x = .bool (betweenB length 0 65495)
  | 28, x => x = .bool (((((Key.ported ⟨k0, k1, k2, k3, k4⟩) && (decide (flags < 64))) && (saneB flags.toNat)) && (betweenB window 0 65535)) && (betweenB length 0 65495))
  | 29, _ => True
  | 30, x => x = .bool (((((Key.ported ⟨k0, k1, k2, k3, k4⟩) && (decide (flags < 64))) && (saneB flags.toNat)) && (betweenB window 0 65535)) && (betweenB length 0 65495))
  | _, _ => True

set_option maxRecDepth 100000 in
set_option maxHeartbeats 4000000 in
theorem rightTCP_any (f : Facts) (w : World) (hf0 : 0 ≤ f.flags) (hf1 : f.flags < 256) :
    Calls Tryz.prog 42 #[f.val] w fun e w' => e = .returned (.tuple #[f.tcpPart.val, .bool f.rightTCP]) ∧ Below w.heap.size w w' := by
  obtain ⟨⟨k0, k1, k2, k3, k4⟩, kind, flags, type, code, seqn, ackn, window, length, ⟨q0, q1, q2, q3, q4⟩, qkind⟩ := f
  dsimp only [Facts.tcpPart, Facts.rightTCP, Facts.zero, Key.zero, Facts.val, Facts.cells, Key.cells, List.cons_append, List.nil_append]
  have f0 := Lib.hid hf0
  have f1 := Lib.hid hf1
  clear hf0 hf1
  dsimp only at f0 f1
  go_enter Tryz.func42, Tryz.ntmps42
  go_upto_region 1 with (first | ((with_reducible refine look_store ?_); refine wpList_store_new rfl _ _ _ rfl _ _ rfl rfl _ _ (by first | (simp only [World.size_alloc] <;> omega) | rfl | omega) (by kernel_rfl) (by simp) (by simp [Value.oneCell']) ?_) | fail)
  have bl0 := (Blk.new w 72 #[.int .u8 k0, .int .u32 k1, .int .u32 k2, .int .u16 k3, .int .u16 k4, .int .u8 kind, .int .u8 flags, .int .u8 type, .int .u8 code, .int .u32 seqn, .int .u32 ackn, .int .i64 window, .int .i64 length, .int .u8 q0, .int .u32 q1, .int .u32 q2, .int .u16 q3, .int .u16 q4, .int .u8 qkind]).alloc (.cells #[.int .u8 0, .int .u32 0, .int .u32 0, .int .u16 0, .int .u16 0, .int .u8 0, .int .u8 0, .int .u8 0, .int .u8 0, .int .u32 0, .int .u32 0, .int .i64 0, .int .i64 0, .int .u8 0, .int .u32 0, .int .u32 0, .int .u16 0, .int .u16 0, .int .u8 0] 72)
  have bl1 := Blk.new (w.alloc (.cells #[.int .u8 k0, .int .u32 k1, .int .u32 k2, .int .u16 k3, .int .u16 k4, .int .u8 kind, .int .u8 flags, .int .u8 type, .int .u8 code, .int .u32 seqn, .int .u32 ackn, .int .i64 window, .int .i64 length, .int .u8 q0, .int .u32 q1, .int .u32 q2, .int .u16 q3, .int .u16 q4, .int .u8 qkind] 72)) 72 #[.int .u8 0, .int .u32 0, .int .u32 0, .int .u16 0, .int .u16 0, .int .u8 0, .int .u8 0, .int .u8 0, .int .u8 0, .int .u32 0, .int .u32 0, .int .i64 0, .int .i64 0, .int .u8 0, .int .u32 0, .int .u32 0, .int .u16 0, .int .u16 0, .int .u8 0]
  simp only [World.size_alloc] at bl1
  have hb0 : Below w.heap.size w ((w.alloc (.cells #[.int .u8 k0, .int .u32 k1, .int .u32 k2, .int .u16 k3, .int .u16 k4, .int .u8 kind, .int .u8 flags, .int .u8 type, .int .u8 code, .int .u32 seqn, .int .u32 ackn, .int .i64 window, .int .i64 length, .int .u8 q0, .int .u32 q1, .int .u32 q2, .int .u16 q3, .int .u16 q4, .int .u8 qkind] 72)).alloc (.cells #[.int .u8 0, .int .u32 0, .int .u32 0, .int .u16 0, .int .u16 0, .int .u8 0, .int .u8 0, .int .u8 0, .int .u8 0, .int .u32 0, .int .u32 0, .int .i64 0, .int .i64 0, .int .u8 0, .int .u32 0, .int .u32 0, .int .u16 0, .int .u16 0, .int .u8 0] 72)) := ((Below.refl _ _).alloc (Nat.le_refl _) _).alloc (by simp) _
  have hs_wa : ((w.alloc (.cells #[.int .u8 k0, .int .u32 k1, .int .u32 k2, .int .u16 k3, .int .u16 k4, .int .u8 kind, .int .u8 flags, .int .u8 type, .int .u8 code, .int .u32 seqn, .int .u32 ackn, .int .i64 window, .int .i64 length, .int .u8 q0, .int .u32 q1, .int .u32 q2, .int .u16 q3, .int .u16 q4, .int .u8 qkind] 72)).alloc (.cells #[.int .u8 0, .int .u32 0, .int .u32 0, .int .u16 0, .int .u16 0, .int .u8 0, .int .u8 0, .int .u8 0, .int .u8 0, .int .u32 0, .int .u32 0, .int .i64 0, .int .i64 0, .int .u8 0, .int .u32 0, .int .u32 0, .int .u16 0, .int .u16 0, .int .u8 0] 72)).heap.size = w.heap.size + 2 := by simp
  generalize ((w.alloc (.cells #[.int .u8 k0, .int .u32 k1, .int .u32 k2, .int .u16 k3, .int .u16 k4, .int .u8 kind, .int .u8 flags, .int .u8 type, .int .u8 code, .int .u32 seqn, .int .u32 ackn, .int .i64 window, .int .i64 length, .int .u8 q0, .int .u32 q1, .int .u32 q2, .int .u16 q3, .int .u16 q4, .int .u8 qkind] 72)).alloc (.cells #[.int .u8 0, .int .u32 0, .int .u32 0, .int .u16 0, .int .u16 0, .int .u8 0, .int .u8 0, .int .u8 0, .int .u8 0, .int .u32 0, .int .u32 0, .int .i64 0, .int .i64 0, .int .u8 0, .int .u32 0, .int .u32 0, .int .u16 0, .int .u16 0, .int .u8 0] 72)) = wa at *
  have hcx := bl0.cell
  go_upto_region 2 with (first | ((with_reducible refine look_store ?_); refine wpList_store_new rfl _ _ _ rfl _ _ rfl rfl _ _ (by first | (simp only [World.size_alloc] <;> omega) | rfl | omega) (by kernel_rfl) (by simp) (by simp [Value.oneCell']) ?_) | fail)
  clear hcx
  replace bl0 := (bl0.alloc (.cells #[.int .u8 k0, .int .u32 k1, .int .u32 k2, .int .u16 k3, .int .u16 k4, .int .u8 kind, .int .u8 flags, .int .u8 0, .int .u8 0, .int .u32 seqn, .int .u32 ackn, .int .i64 window, .int .i64 length, .int .u8 0, .int .u32 0, .int .u32 0, .int .u16 0, .int .u16 0, .int .u8 0] 72))
  replace bl1 := (bl1.alloc (.cells #[.int .u8 k0, .int .u32 k1, .int .u32 k2, .int .u16 k3, .int .u16 k4, .int .u8 kind, .int .u8 flags, .int .u8 0, .int .u8 0, .int .u32 seqn, .int .u32 ackn, .int .i64 window, .int .i64 length, .int .u8 0, .int .u32 0, .int .u32 0, .int .u16 0, .int .u16 0, .int .u8 0] 72))
  have bl2 := Blk.new wa 72 #[.int .u8 k0, .int .u32 k1, .int .u32 k2, .int .u16 k3, .int .u16 k4, .int .u8 kind, .int .u8 flags, .int .u8 0, .int .u8 0, .int .u32 seqn, .int .u32 ackn, .int .i64 window, .int .i64 length, .int .u8 0, .int .u32 0, .int .u32 0, .int .u16 0, .int .u16 0, .int .u8 0]
  simp only [hs_wa] at bl2
  replace hb0 : Below w.heap.size w (wa.alloc (.cells #[.int .u8 k0, .int .u32 k1, .int .u32 k2, .int .u16 k3, .int .u16 k4, .int .u8 kind, .int .u8 flags, .int .u8 0, .int .u8 0, .int .u32 seqn, .int .u32 ackn, .int .i64 window, .int .i64 length, .int .u8 0, .int .u32 0, .int .u32 0, .int .u16 0, .int .u16 0, .int .u8 0] 72)) := (hb0).alloc (by omega) _
  have hs_wr : (wa.alloc (.cells #[.int .u8 k0, .int .u32 k1, .int .u32 k2, .int .u16 k3, .int .u16 k4, .int .u8 kind, .int .u8 flags, .int .u8 0, .int .u8 0, .int .u32 seqn, .int .u32 ackn, .int .i64 window, .int .i64 length, .int .u8 0, .int .u32 0, .int .u32 0, .int .u16 0, .int .u16 0, .int .u8 0] 72)).heap.size = w.heap.size + 3 := by simp only [World.size_alloc, hs_wa]
  generalize (wa.alloc (.cells #[.int .u8 k0, .int .u32 k1, .int .u32 k2, .int .u16 k3, .int .u16 k4, .int .u8 kind, .int .u8 flags, .int .u8 0, .int .u8 0, .int .u32 seqn, .int .u32 ackn, .int .i64 window, .int .i64 length, .int .u8 0, .int .u32 0, .int .u32 0, .int .u16 0, .int .u16 0, .int .u8 0] 72)) = wr at *
  have hsz0 := hb0.size
  refine wp_region_inv (by kernel_rfl) (depsOk_spec (by kernel_rfl)) (fun L a W => ∃ v : Nat → Value, a = { tmps := #[.agg #[.int .u8 k0, .int .u32 k1, .int .u32 k2, .int .u16 k3, .int .u16 k4, .int .u8 kind, .int .u8 flags, .int .u8 type, .int .u8 code, .int .u32 seqn, .int .u32 ackn, .int .i64 window, .int .i64 length, .int .u8 q0, .int .u32 q1, .int .u32 q2, .int .u16 q3, .int .u16 q4, .int .u8 qkind], .pointer (some ⟨w.heap.size, 0, none⟩), .pointer (some ⟨w.heap.size + 1, 0, none⟩), v 30, .pointer (some ⟨w.heap.size + 2, 0, none⟩), .pointer (some ⟨w.heap.size, 0, none⟩), .pointer (some ⟨w.heap.size, 5, none⟩), .int .u8 kind, .pointer (some ⟨w.heap.size, 0, none⟩), .pointer (some ⟨w.heap.size, 0, none⟩), .agg #[.int .u8 k0, .int .u32 k1, .int .u32 k2, .int .u16 k3, .int .u16 k4], .pointer (some ⟨w.heap.size, 0, none⟩), .pointer (some ⟨w.heap.size, 6, none⟩), .int .u8 flags, .pointer (some ⟨w.heap.size, 0, none⟩), .pointer (some ⟨w.heap.size, 9, none⟩), .int .u32 seqn, .pointer (some ⟨w.heap.size, 0, none⟩), .pointer (some ⟨w.heap.size, 10, none⟩), .int .u32 ackn, .pointer (some ⟨w.heap.size, 0, none⟩), .pointer (some ⟨w.heap.size, 11, none⟩), .int .i64 window, .pointer (some ⟨w.heap.size, 0, none⟩), .pointer (some ⟨w.heap.size, 12, none⟩), .int .i64 length, .agg #[.int .u8 k0, .int .u32 k1, .int .u32 k2, .int .u16 k3, .int .u16 k4, .int .u8 kind, .int .u8 flags, .int .u8 0, .int .u8 0, .int .u32 seqn, .int .u32 ackn, .int .i64 window, .int .i64 length, .int .u8 0, .int .u32 0, .int .u32 0, .int .u16 0, .int .u16 0, .int .u8 0], .agg #[.int .u8 k0, .int .u32 k1, .int .u32 k2, .int .u16 k3, .int .u16 k4, .int .u8 kind, .int .u8 flags, .int .u8 0, .int .u8 0, .int .u32 seqn, .int .u32 ackn, .int .i64 window, .int .i64 length, .int .u8 0, .int .u32 0, .int .u32 0, .int .u16 0, .int .u16 0, .int .u8 0], v 0, v 1, v 2, v 3, v 4, v 5, v 6, v 7, v 8, v 9, v 10, v 11, v 12, v 13, v 14, v 15, v 16, v 17, v 18, v 19, v 20, v 21, v 22, v 23, v 24, v 25, v 26, v 27, v 28], defers := [] } ∧ Below (w.heap.size) (wr) W ∧ Blk W (w.heap.size) 72 #[.int .u8 k0, .int .u32 k1, .int .u32 k2, .int .u16 k3, .int .u16 k4, .int .u8 kind, .int .u8 flags, .int .u8 type, .int .u8 code, .int .u32 seqn, .int .u32 ackn, .int .i64 window, .int .i64 length, .int .u8 q0, .int .u32 q1, .int .u32 q2, .int .u16 q3, .int .u16 q4, .int .u8 qkind] ∧ Blk W (w.heap.size + 2) 72 #[.int .u8 k0, .int .u32 k1, .int .u32 k2, .int .u16 k3, .int .u16 k4, .int .u8 kind, .int .u8 flags, .int .u8 0, .int .u8 0, .int .u32 seqn, .int .u32 ackn, .int .i64 window, .int .i64 length, .int .u8 0, .int .u32 0, .int .u32 0, .int .u16 0, .int .u16 0, .int .u8 0] ∧ Blk W (w.heap.size + 1) 72 (stSel (L 29) #[.int .u8 k0, .int .u32 k1, .int .u32 k2, .int .u16 k3, .int .u16 k4, .int .u8 kind, .int .u8 flags, .int .u8 0, .int .u8 0, .int .u32 seqn, .int .u32 ackn, .int .i64 window, .int .i64 length, .int .u8 0, .int .u32 0, .int .u32 0, .int .u16 0, .int .u16 0, .int .u8 0] #[.int .u8 0, .int .u32 0, .int .u32 0, .int .u16 0, .int .u16 0, .int .u8 0, .int .u8 0, .int .u8 0, .int .u8 0, .int .u32 0, .int .u32 0, .int .i64 0, .int .i64 0, .int .u8 0, .int .u32 0, .int .u32 0, .int .u16 0, .int .u16 0, .int .u8 0]) ∧ ∀ j, L j = true → TcpRF w.heap.size k0 k1 k2 k3 k4 kind flags type code seqn ackn window length j (v j)) ?h0 ?hstep ?hend
  case hstep =>
    intro L a W i o hoi hLi hdep ⟨v, ha, hb, hk0, hk1, hst, hF⟩
    subst ha
    have hi : i < 31 := (Array.getElem?_eq_some_iff.1 hoi).1
    have HF := Lib.hid hF
    have Hb := Lib.hid hb
    have hszW := Nat.le_trans hsz0 hb.size
    have Hhk0 := Lib.hid hk0
    have Hhk1 := Lib.hid hk1
    have Hhst := Lib.hid hst
    clear hF hb hk0 hk1 hst
    rcases (show i = 0 ∨ i = 1 ∨ i = 2 ∨ i = 3 ∨ i = 4 ∨ i = 5 ∨ i = 6 ∨ i = 7 ∨ i = 8 ∨ i = 9 ∨ i = 10 ∨ i = 11 ∨ i = 12 ∨ i = 13 ∨ i = 14 ∨ i = 15 ∨ i = 16 ∨ i = 17 ∨ i = 18 ∨ i = 19 ∨ i = 20 ∨ i = 21 ∨ i = 22 ∨ i = 23 ∨ i = 24 ∨ i = 25 ∨ i = 26 ∨ i = 27 ∨ i = 28 ∨ i = 29 ∨ i = 30 by omega) with rfl | rfl | rfl | rfl | rfl | rfl | rfl | rfl | rfl | rfl | rfl | rfl | rfl | rfl | rfl | rfl | rfl | rfl | rfl | rfl | rfl | rfl | rfl | rfl | rfl | rfl | rfl | rfl | rfl | rfl | rfl
    · -- operation 0: load
      simp at hoi; subst hoi
      clear hdep hLi
      refine wpList_load_row rfl 72 (.tmp 4) rfl (w.heap.size + 2) (by simp [Act.eval]) _ _ _ _ Hhk1.out Tryz.underlying72 rfl (by kernel_rfl) ?_
      go_wp2_with fail
      exact ⟨upd v 0 (.agg #[.int .u8 k0, .int .u32 k1, .int .u32 k2, .int .u16 k3, .int .u16 k4, .int .u8 kind, .int .u8 flags, .int .u8 0, .int .u8 0, .int .u32 seqn, .int .u32 ackn, .int .i64 window, .int .i64 length, .int .u8 0, .int .u32 0, .int .u32 0, .int .u16 0, .int .u16 0, .int .u8 0]), by simp [upd, Act.put], Hb.out, Hhk0.out, Hhk1.out, (by simpa using Hhst.out), upd_vals HF.out (rfl)⟩
    · -- operation 1: fieldAddr
      simp at hoi; subst hoi
      clear hdep hLi
      go_wp2_with fail
      exact ⟨upd v 1 (.pointer (some ⟨w.heap.size, 0, none⟩)), by simp [upd], Hb.out, Hhk0.out, Hhk1.out, (by simpa using Hhst.out), upd_vals HF.out (rfl)⟩
    · -- operation 2: fieldAddr
      simp at hoi; subst hoi
      have h1 : v 1 = .pointer (some ⟨w.heap.size, 0, none⟩) := HF.out 1 (hdep ⟨1, .data⟩ (by simp) rfl)
      clear hdep hLi
      go_wp2_with fail
      exact ⟨upd v 2 (.pointer (some ⟨w.heap.size, 0, none⟩)), by simp [upd, h1], Hb.out, Hhk0.out, Hhk1.out, (by simpa using Hhst.out), upd_vals HF.out (rfl)⟩
    · -- operation 3: load
      simp at hoi; subst hoi
      have h2 : v 2 = .pointer (some ⟨w.heap.size, 0, none⟩) := HF.out 2 (hdep ⟨2, .data⟩ (by simp) rfl)
      have hcx := Hhk0.out.cell
      clear hdep hLi
      go_wp2_with fail
      exact ⟨upd v 3 (.agg #[.int .u8 k0, .int .u32 k1, .int .u32 k2, .int .u16 k3, .int .u16 k4]), by simp [upd, h2], Hb.out, Hhk0.out, Hhk1.out, (by simpa using Hhst.out), upd_vals HF.out (rfl)⟩
    · -- operation 4: call
      simp at hoi; subst hoi
      have h3 : v 3 = .agg #[.int .u8 k0, .int .u32 k1, .int .u32 k2, .int .u16 k3, .int .u16 k4] := HF.out 3 (hdep ⟨3, .data⟩ (by simp) rfl)
      clear hdep hLi
      go_wp2_with fail
      refine (ported_any ⟨k0, k1, k2, k3, k4⟩ _).mono ?_
      rintro e w2 ⟨rfl, l2⟩
      go_wp2_with fail
      exact ⟨upd v 4 (.bool (Key.ported ⟨k0, k1, k2, k3, k4⟩)), by simp [upd, h3], Hb.out.trans (l2.mono hszW), Hhk0.out.below l2 Hhk0.out.lt, Hhk1.out.below l2 Hhk1.out.lt, (by simpa using Hhst.out.below l2 Hhst.out.lt), upd_vals HF.out (rfl)⟩
    · -- operation 5: move
      simp at hoi; subst hoi
      have h4 : v 4 = .bool (Key.ported ⟨k0, k1, k2, k3, k4⟩) := HF.out 4 (hdep ⟨4, .data⟩ (by simp) rfl)
      clear hdep hLi
      go_wp2_with fail
      exact ⟨upd v 5 (.bool (Key.ported ⟨k0, k1, k2, k3, k4⟩)), by simp [upd, h4], Hb.out, Hhk0.out, Hhk1.out, (by simpa using Hhst.out), upd_vals HF.out (rfl)⟩
    · -- operation 6: fieldAddr
      simp at hoi; subst hoi
      have hgv : v 5 = .bool (Key.ported ⟨k0, k1, k2, k3, k4⟩) := HF.out 5 (hdep ⟨5, .guard⟩ (by simp) rfl)
      by_cases hg : (Key.ported ⟨k0, k1, k2, k3, k4⟩) = true
      · rw [hg] at hgv
        clear hdep hLi
        go_wp2_with fail
        exact ⟨upd v 6 (.pointer (some ⟨w.heap.size, 0, none⟩)), by simp [upd, hgv], Hb.out, Hhk0.out, Hhk1.out, (by simpa using Hhst.out), upd_vals HF.out (fun _ => rfl)⟩
      · have hg2 : (Key.ported ⟨k0, k1, k2, k3, k4⟩) = false := by simpa using hg
        rw [hg2] at hgv
        clear hdep hLi
        go_wp2_with fail
        exact ⟨upd v 6 undef, by simp [upd, hgv], Hb.out, Hhk0.out, Hhk1.out, (by simpa using Hhst.out), upd_vals HF.out (fun h => absurd h hg)⟩
    · -- operation 7: fieldAddr
      simp at hoi; subst hoi
      have hgv : v 5 = .bool (Key.ported ⟨k0, k1, k2, k3, k4⟩) := HF.out 5 (hdep ⟨5, .guard⟩ (by simp) rfl)
      by_cases hg : (Key.ported ⟨k0, k1, k2, k3, k4⟩) = true
      · rw [hg] at hgv
        have h6 : v 6 = .pointer (some ⟨w.heap.size, 0, none⟩) := HF.out 6 (hdep ⟨6, .data⟩ (by simp) rfl) hg
        clear hdep hLi
        go_wp2_with fail
        exact ⟨upd v 7 (.pointer (some ⟨w.heap.size, 6, none⟩)), by simp [upd, h6, hgv], Hb.out, Hhk0.out, Hhk1.out, (by simpa using Hhst.out), upd_vals HF.out (fun _ => rfl)⟩
      · have hg2 : (Key.ported ⟨k0, k1, k2, k3, k4⟩) = false := by simpa using hg
        rw [hg2] at hgv
        clear hdep hLi
        go_wp2_with fail
        exact ⟨upd v 7 undef, by simp [upd, hgv], Hb.out, Hhk0.out, Hhk1.out, (by simpa using Hhst.out), upd_vals HF.out (fun h => absurd h hg)⟩
    · -- operation 8: load
      simp at hoi; subst hoi
      have hgv : v 5 = .bool (Key.ported ⟨k0, k1, k2, k3, k4⟩) := HF.out 5 (hdep ⟨5, .guard⟩ (by simp) rfl)
      by_cases hg : (Key.ported ⟨k0, k1, k2, k3, k4⟩) = true
      · rw [hg] at hgv
        have h7 : v 7 = .pointer (some ⟨w.heap.size, 6, none⟩) := HF.out 7 (hdep ⟨7, .data⟩ (by simp) rfl) hg
        have hcx := Hhk0.out.cell
        clear hdep hLi
        go_wp2_with fail
        exact ⟨upd v 8 (.int .u8 flags), by simp [upd, h7, hgv], Hb.out, Hhk0.out, Hhk1.out, (by simpa using Hhst.out), upd_vals HF.out (fun _ => rfl)⟩
      · have hg2 : (Key.ported ⟨k0, k1, k2, k3, k4⟩) = false := by simpa using hg
        rw [hg2] at hgv
        clear hdep hLi
        go_wp2_with fail
        exact ⟨upd v 8 undef, by simp [upd, hgv], Hb.out, Hhk0.out, Hhk1.out, (by simpa using Hhst.out), upd_vals HF.out (fun h => absurd h hg)⟩
    · -- operation 9: binOp
      simp at hoi; subst hoi
      have hgv : v 5 = .bool (Key.ported ⟨k0, k1, k2, k3, k4⟩) := HF.out 5 (hdep ⟨5, .guard⟩ (by simp) rfl)
      by_cases hg : (Key.ported ⟨k0, k1, k2, k3, k4⟩) = true
      · rw [hg] at hgv
        have h8 : v 8 = .int .u8 flags := HF.out 8 (hdep ⟨8, .data⟩ (by simp) rfl) hg
        clear hdep hLi
        go_wp2_with fail
        exact ⟨upd v 9 (.bool (decide (flags < 64))), by simp [upd, h8, hgv], Hb.out, Hhk0.out, Hhk1.out, (by simpa using Hhst.out), upd_vals HF.out (fun _ => rfl)⟩
      · have hg2 : (Key.ported ⟨k0, k1, k2, k3, k4⟩) = false := by simpa using hg
        rw [hg2] at hgv
        clear hdep hLi
        go_wp2_with fail
        exact ⟨upd v 9 undef, by simp [upd, hgv], Hb.out, Hhk0.out, Hhk1.out, (by simpa using Hhst.out), upd_vals HF.out (fun h => absurd h hg)⟩
    · -- operation 10: pick
      simp at hoi; subst hoi
      by_cases hg : (Key.ported ⟨k0, k1, k2, k3, k4⟩) = true
      ·
        have h5 : v 5 = .bool (Key.ported ⟨k0, k1, k2, k3, k4⟩) := HF.out 5 (hdep ⟨5, .data⟩ (by simp) rfl)
        have h9 : v 9 = .bool (decide (flags < 64)) := HF.out 9 (hdep ⟨9, .data⟩ (by simp) rfl) hg
        clear hdep hLi
        go_wp2_with fail
        exact ⟨upd v 10 (.bool ((Key.ported ⟨k0, k1, k2, k3, k4⟩) && (decide (flags < 64)))), by simp [upd, h5, h9, hg], Hb.out, Hhk0.out, Hhk1.out, (by simpa using Hhst.out), upd_vals HF.out (rfl)⟩
      · have hg2 : (Key.ported ⟨k0, k1, k2, k3, k4⟩) = false := by simpa using hg
        have h5 : v 5 = .bool (Key.ported ⟨k0, k1, k2, k3, k4⟩) := HF.out 5 (hdep ⟨5, .data⟩ (by simp) rfl)
        clear hdep hLi
        go_wp2_with fail
        exact ⟨upd v 10 (.bool ((Key.ported ⟨k0, k1, k2, k3, k4⟩) && (decide (flags < 64)))), by simp [upd, h5, hg2], Hb.out, Hhk0.out, Hhk1.out, (by simpa using Hhst.out), upd_vals HF.out (rfl)⟩
    · -- operation 11: move
      simp at hoi; subst hoi
      have h10 : v 10 = .bool ((Key.ported ⟨k0, k1, k2, k3, k4⟩) && (decide (flags < 64))) := HF.out 10 (hdep ⟨10, .data⟩ (by simp) rfl)
      clear hdep hLi
      go_wp2_with fail
      exact ⟨upd v 11 (.bool ((Key.ported ⟨k0, k1, k2, k3, k4⟩) && (decide (flags < 64)))), by simp [upd, h10], Hb.out, Hhk0.out, Hhk1.out, (by simpa using Hhst.out), upd_vals HF.out (rfl)⟩
    · -- operation 12: fieldAddr
      simp at hoi; subst hoi
      have hgv : v 11 = .bool ((Key.ported ⟨k0, k1, k2, k3, k4⟩) && (decide (flags < 64))) := HF.out 11 (hdep ⟨11, .guard⟩ (by simp) rfl)
      by_cases hg : ((Key.ported ⟨k0, k1, k2, k3, k4⟩) && (decide (flags < 64))) = true
      · rw [hg] at hgv
        clear hdep hLi
        go_wp2_with fail
        exact ⟨upd v 12 (.pointer (some ⟨w.heap.size, 0, none⟩)), by simp [upd, hgv], Hb.out, Hhk0.out, Hhk1.out, (by simpa using Hhst.out), upd_vals HF.out (fun _ => rfl)⟩
      · have hg2 : ((Key.ported ⟨k0, k1, k2, k3, k4⟩) && (decide (flags < 64))) = false := by simpa using hg
        rw [hg2] at hgv
        clear hdep hLi
        go_wp2_with fail
        exact ⟨upd v 12 undef, by simp [upd, hgv], Hb.out, Hhk0.out, Hhk1.out, (by simpa using Hhst.out), upd_vals HF.out (fun h => absurd h hg)⟩
    · -- operation 13: fieldAddr
      simp at hoi; subst hoi
      have hgv : v 11 = .bool ((Key.ported ⟨k0, k1, k2, k3, k4⟩) && (decide (flags < 64))) := HF.out 11 (hdep ⟨11, .guard⟩ (by simp) rfl)
      by_cases hg : ((Key.ported ⟨k0, k1, k2, k3, k4⟩) && (decide (flags < 64))) = true
      · rw [hg] at hgv
        have h12 : v 12 = .pointer (some ⟨w.heap.size, 0, none⟩) := HF.out 12 (hdep ⟨12, .data⟩ (by simp) rfl) hg
        clear hdep hLi
        go_wp2_with fail
        exact ⟨upd v 13 (.pointer (some ⟨w.heap.size, 6, none⟩)), by simp [upd, h12, hgv], Hb.out, Hhk0.out, Hhk1.out, (by simpa using Hhst.out), upd_vals HF.out (fun _ => rfl)⟩
      · have hg2 : ((Key.ported ⟨k0, k1, k2, k3, k4⟩) && (decide (flags < 64))) = false := by simpa using hg
        rw [hg2] at hgv
        clear hdep hLi
        go_wp2_with fail
        exact ⟨upd v 13 undef, by simp [upd, hgv], Hb.out, Hhk0.out, Hhk1.out, (by simpa using Hhst.out), upd_vals HF.out (fun h => absurd h hg)⟩
    · -- operation 14: load
      simp at hoi; subst hoi
      have hgv : v 11 = .bool ((Key.ported ⟨k0, k1, k2, k3, k4⟩) && (decide (flags < 64))) := HF.out 11 (hdep ⟨11, .guard⟩ (by simp) rfl)
      by_cases hg : ((Key.ported ⟨k0, k1, k2, k3, k4⟩) && (decide (flags < 64))) = true
      · rw [hg] at hgv
        have h13 : v 13 = .pointer (some ⟨w.heap.size, 6, none⟩) := HF.out 13 (hdep ⟨13, .data⟩ (by simp) rfl) hg
        have hcx := Hhk0.out.cell
        clear hdep hLi
        go_wp2_with fail
        exact ⟨upd v 14 (.int .u8 flags), by simp [upd, h13, hgv], Hb.out, Hhk0.out, Hhk1.out, (by simpa using Hhst.out), upd_vals HF.out (fun _ => rfl)⟩
      · have hg2 : ((Key.ported ⟨k0, k1, k2, k3, k4⟩) && (decide (flags < 64))) = false := by simpa using hg
        rw [hg2] at hgv
        clear hdep hLi
        go_wp2_with fail
        exact ⟨upd v 14 undef, by simp [upd, hgv], Hb.out, Hhk0.out, Hhk1.out, (by simpa using Hhst.out), upd_vals HF.out (fun h => absurd h hg)⟩
    · -- operation 15: call
      simp at hoi; subst hoi
      have hgv : v 11 = .bool ((Key.ported ⟨k0, k1, k2, k3, k4⟩) && (decide (flags < 64))) := HF.out 11 (hdep ⟨11, .guard⟩ (by simp) rfl)
      by_cases hg : ((Key.ported ⟨k0, k1, k2, k3, k4⟩) && (decide (flags < 64))) = true
      · rw [hg] at hgv
        have h14 : v 14 = .int .u8 flags := HF.out 14 (hdep ⟨14, .data⟩ (by simp) rfl) hg
        clear hdep hLi
        go_wp2_with fail
        refine (saneI_any flags _ f0.out f1.out).mono ?_
        rintro e w2 ⟨rfl, rfl⟩
        go_wp2_with fail
        exact ⟨upd v 15 (.bool (saneB flags.toNat)), by simp [upd, h14, hgv], Hb.out, Hhk0.out, Hhk1.out, (by simpa using Hhst.out), upd_vals HF.out (fun _ => rfl)⟩
      · have hg2 : ((Key.ported ⟨k0, k1, k2, k3, k4⟩) && (decide (flags < 64))) = false := by simpa using hg
        rw [hg2] at hgv
        clear hdep hLi
        go_wp2_with fail
        exact ⟨upd v 15 undef, by simp [upd, hgv], Hb.out, Hhk0.out, Hhk1.out, (by simpa using Hhst.out), upd_vals HF.out (fun h => absurd h hg)⟩
    · -- operation 16: pick
      simp at hoi; subst hoi
      by_cases hg : ((Key.ported ⟨k0, k1, k2, k3, k4⟩) && (decide (flags < 64))) = true
      ·
        have h11 : v 11 = .bool ((Key.ported ⟨k0, k1, k2, k3, k4⟩) && (decide (flags < 64))) := HF.out 11 (hdep ⟨11, .data⟩ (by simp) rfl)
        have h15 : v 15 = .bool (saneB flags.toNat) := HF.out 15 (hdep ⟨15, .data⟩ (by simp) rfl) hg
        clear hdep hLi
        go_wp2_with fail
        exact ⟨upd v 16 (.bool (((Key.ported ⟨k0, k1, k2, k3, k4⟩) && (decide (flags < 64))) && (saneB flags.toNat))), by simp [upd, h11, h15, hg], Hb.out, Hhk0.out, Hhk1.out, (by simpa using Hhst.out), upd_vals HF.out (rfl)⟩
      · have hg2 : ((Key.ported ⟨k0, k1, k2, k3, k4⟩) && (decide (flags < 64))) = false := by simpa using hg
        have h11 : v 11 = .bool ((Key.ported ⟨k0, k1, k2, k3, k4⟩) && (decide (flags < 64))) := HF.out 11 (hdep ⟨11, .data⟩ (by simp) rfl)
        clear hdep hLi
        go_wp2_with fail
        exact ⟨upd v 16 (.bool (((Key.ported ⟨k0, k1, k2, k3, k4⟩) && (decide (flags < 64))) && (saneB flags.toNat))), by simp [upd, h11, hg2], Hb.out, Hhk0.out, Hhk1.out, (by simpa using Hhst.out), upd_vals HF.out (rfl)⟩
    · -- operation 17: move
      simp at hoi; subst hoi
      have h16 : v 16 = .bool (((Key.ported ⟨k0, k1, k2, k3, k4⟩) && (decide (flags < 64))) && (saneB flags.toNat)) := HF.out 16 (hdep ⟨16, .data⟩ (by simp) rfl)
      clear hdep hLi
      go_wp2_with fail
      exact ⟨upd v 17 (.bool (((Key.ported ⟨k0, k1, k2, k3, k4⟩) && (decide (flags < 64))) && (saneB flags.toNat))), by simp [upd, h16], Hb.out, Hhk0.out, Hhk1.out, (by simpa using Hhst.out), upd_vals HF.out (rfl)⟩
    · -- operation 18: fieldAddr
      simp at hoi; subst hoi
      have hgv : v 17 = .bool (((Key.ported ⟨k0, k1, k2, k3, k4⟩) && (decide (flags < 64))) && (saneB flags.toNat)) := HF.out 17 (hdep ⟨17, .guard⟩ (by simp) rfl)
      by_cases hg : (((Key.ported ⟨k0, k1, k2, k3, k4⟩) && (decide (flags < 64))) && (saneB flags.toNat)) = true
      · rw [hg] at hgv
        clear hdep hLi
        go_wp2_with fail
        exact ⟨upd v 18 (.pointer (some ⟨w.heap.size, 0, none⟩)), by simp [upd, hgv], Hb.out, Hhk0.out, Hhk1.out, (by simpa using Hhst.out), upd_vals HF.out (fun _ => rfl)⟩
      · have hg2 : (((Key.ported ⟨k0, k1, k2, k3, k4⟩) && (decide (flags < 64))) && (saneB flags.toNat)) = false := by simpa using hg
        rw [hg2] at hgv
        clear hdep hLi
        go_wp2_with fail
        exact ⟨upd v 18 undef, by simp [upd, hgv], Hb.out, Hhk0.out, Hhk1.out, (by simpa using Hhst.out), upd_vals HF.out (fun h => absurd h hg)⟩
    · -- operation 19: fieldAddr
      simp at hoi; subst hoi
      have hgv : v 17 = .bool (((Key.ported ⟨k0, k1, k2, k3, k4⟩) && (decide (flags < 64))) && (saneB flags.toNat)) := HF.out 17 (hdep ⟨17, .guard⟩ (by simp) rfl)
      by_cases hg : (((Key.ported ⟨k0, k1, k2, k3, k4⟩) && (decide (flags < 64))) && (saneB flags.toNat)) = true
      · rw [hg] at hgv
        have h18 : v 18 = .pointer (some ⟨w.heap.size, 0, none⟩) := HF.out 18 (hdep ⟨18, .data⟩ (by simp) rfl) hg
        clear hdep hLi
        go_wp2_with fail
        exact ⟨upd v 19 (.pointer (some ⟨w.heap.size, 11, none⟩)), by simp [upd, h18, hgv], Hb.out, Hhk0.out, Hhk1.out, (by simpa using Hhst.out), upd_vals HF.out (fun _ => rfl)⟩
      · have hg2 : (((Key.ported ⟨k0, k1, k2, k3, k4⟩) && (decide (flags < 64))) && (saneB flags.toNat)) = false := by simpa using hg
        rw [hg2] at hgv
        clear hdep hLi
        go_wp2_with fail
        exact ⟨upd v 19 undef, by simp [upd, hgv], Hb.out, Hhk0.out, Hhk1.out, (by simpa using Hhst.out), upd_vals HF.out (fun h => absurd h hg)⟩
    · -- operation 20: load
      simp at hoi; subst hoi
      have hgv : v 17 = .bool (((Key.ported ⟨k0, k1, k2, k3, k4⟩) && (decide (flags < 64))) && (saneB flags.toNat)) := HF.out 17 (hdep ⟨17, .guard⟩ (by simp) rfl)
      by_cases hg : (((Key.ported ⟨k0, k1, k2, k3, k4⟩) && (decide (flags < 64))) && (saneB flags.toNat)) = true
      · rw [hg] at hgv
        have h19 : v 19 = .pointer (some ⟨w.heap.size, 11, none⟩) := HF.out 19 (hdep ⟨19, .data⟩ (by simp) rfl) hg
        have hcx := Hhk0.out.cell
        clear hdep hLi
        go_wp2_with fail
        exact ⟨upd v 20 (.int .i64 window), by simp [upd, h19, hgv], Hb.out, Hhk0.out, Hhk1.out, (by simpa using Hhst.out), upd_vals HF.out (fun _ => rfl)⟩
      · have hg2 : (((Key.ported ⟨k0, k1, k2, k3, k4⟩) && (decide (flags < 64))) && (saneB flags.toNat)) = false := by simpa using hg
        rw [hg2] at hgv
        clear hdep hLi
        go_wp2_with fail
        exact ⟨upd v 20 undef, by simp [upd, hgv], Hb.out, Hhk0.out, Hhk1.out, (by simpa using Hhst.out), upd_vals HF.out (fun h => absurd h hg)⟩
    · -- operation 21: call
      simp at hoi; subst hoi
      have hgv : v 17 = .bool (((Key.ported ⟨k0, k1, k2, k3, k4⟩) && (decide (flags < 64))) && (saneB flags.toNat)) := HF.out 17 (hdep ⟨17, .guard⟩ (by simp) rfl)
      by_cases hg : (((Key.ported ⟨k0, k1, k2, k3, k4⟩) && (decide (flags < 64))) && (saneB flags.toNat)) = true
      · rw [hg] at hgv
        have h20 : v 20 = .int .i64 window := HF.out 20 (hdep ⟨20, .data⟩ (by simp) rfl) hg
        clear hdep hLi
        go_wp2_with fail
        refine (between_any _ _ _ _).mono ?_
        rintro e w2 ⟨rfl, rfl⟩
        go_wp2_with fail
        exact ⟨upd v 21 (.bool (betweenB window 0 65535)), by simp [upd, h20, hgv], Hb.out, Hhk0.out, Hhk1.out, (by simpa using Hhst.out), upd_vals HF.out (fun _ => rfl)⟩
      · have hg2 : (((Key.ported ⟨k0, k1, k2, k3, k4⟩) && (decide (flags < 64))) && (saneB flags.toNat)) = false := by simpa using hg
        rw [hg2] at hgv
        clear hdep hLi
        go_wp2_with fail
        exact ⟨upd v 21 undef, by simp [upd, hgv], Hb.out, Hhk0.out, Hhk1.out, (by simpa using Hhst.out), upd_vals HF.out (fun h => absurd h hg)⟩
    · -- operation 22: pick
      simp at hoi; subst hoi
      by_cases hg : (((Key.ported ⟨k0, k1, k2, k3, k4⟩) && (decide (flags < 64))) && (saneB flags.toNat)) = true
      ·
        have h17 : v 17 = .bool (((Key.ported ⟨k0, k1, k2, k3, k4⟩) && (decide (flags < 64))) && (saneB flags.toNat)) := HF.out 17 (hdep ⟨17, .data⟩ (by simp) rfl)
        have h21 : v 21 = .bool (betweenB window 0 65535) := HF.out 21 (hdep ⟨21, .data⟩ (by simp) rfl) hg
        clear hdep hLi
        go_wp2_with fail
        exact ⟨upd v 22 (.bool ((((Key.ported ⟨k0, k1, k2, k3, k4⟩) && (decide (flags < 64))) && (saneB flags.toNat)) && (betweenB window 0 65535))), by simp [upd, h17, h21, hg], Hb.out, Hhk0.out, Hhk1.out, (by simpa using Hhst.out), upd_vals HF.out (rfl)⟩
      · have hg2 : (((Key.ported ⟨k0, k1, k2, k3, k4⟩) && (decide (flags < 64))) && (saneB flags.toNat)) = false := by simpa using hg
        have h17 : v 17 = .bool (((Key.ported ⟨k0, k1, k2, k3, k4⟩) && (decide (flags < 64))) && (saneB flags.toNat)) := HF.out 17 (hdep ⟨17, .data⟩ (by simp) rfl)
        clear hdep hLi
        go_wp2_with fail
        exact ⟨upd v 22 (.bool ((((Key.ported ⟨k0, k1, k2, k3, k4⟩) && (decide (flags < 64))) && (saneB flags.toNat)) && (betweenB window 0 65535))), by simp [upd, h17, hg2], Hb.out, Hhk0.out, Hhk1.out, (by simpa using Hhst.out), upd_vals HF.out (rfl)⟩
    · -- operation 23: move
      simp at hoi; subst hoi
      have h22 : v 22 = .bool ((((Key.ported ⟨k0, k1, k2, k3, k4⟩) && (decide (flags < 64))) && (saneB flags.toNat)) && (betweenB window 0 65535)) := HF.out 22 (hdep ⟨22, .data⟩ (by simp) rfl)
      clear hdep hLi
      go_wp2_with fail
      exact ⟨upd v 23 (.bool ((((Key.ported ⟨k0, k1, k2, k3, k4⟩) && (decide (flags < 64))) && (saneB flags.toNat)) && (betweenB window 0 65535))), by simp [upd, h22], Hb.out, Hhk0.out, Hhk1.out, (by simpa using Hhst.out), upd_vals HF.out (rfl)⟩
    · -- operation 24: fieldAddr
      simp at hoi; subst hoi
      have hgv : v 23 = .bool ((((Key.ported ⟨k0, k1, k2, k3, k4⟩) && (decide (flags < 64))) && (saneB flags.toNat)) && (betweenB window 0 65535)) := HF.out 23 (hdep ⟨23, .guard⟩ (by simp) rfl)
      by_cases hg : ((((Key.ported ⟨k0, k1, k2, k3, k4⟩) && (decide (flags < 64))) && (saneB flags.toNat)) && (betweenB window 0 65535)) = true
      · rw [hg] at hgv
        clear hdep hLi
        go_wp2_with fail
        exact ⟨upd v 24 (.pointer (some ⟨w.heap.size, 0, none⟩)), by simp [upd, hgv], Hb.out, Hhk0.out, Hhk1.out, (by simpa using Hhst.out), upd_vals HF.out (fun _ => rfl)⟩
      · have hg2 : ((((Key.ported ⟨k0, k1, k2, k3, k4⟩) && (decide (flags < 64))) && (saneB flags.toNat)) && (betweenB window 0 65535)) = false := by simpa using hg
        rw [hg2] at hgv
        clear hdep hLi
        go_wp2_with fail
        exact ⟨upd v 24 undef, by simp [upd, hgv], Hb.out, Hhk0.out, Hhk1.out, (by simpa using Hhst.out), upd_vals HF.out (fun h => absurd h hg)⟩
    · -- operation 25: fieldAddr
      simp at hoi; subst hoi
      have hgv : v 23 = .bool ((((Key.ported ⟨k0, k1, k2, k3, k4⟩) && (decide (flags < 64))) && (saneB flags.toNat)) && (betweenB window 0 65535)) := HF.out 23 (hdep ⟨23, .guard⟩ (by simp) rfl)
      by_cases hg : ((((Key.ported ⟨k0, k1, k2, k3, k4⟩) && (decide (flags < 64))) && (saneB flags.toNat)) && (betweenB window 0 65535)) = true
      · rw [hg] at hgv
        have h24 : v 24 = .pointer (some ⟨w.heap.size, 0, none⟩) := HF.out 24 (hdep ⟨24, .data⟩ (by simp) rfl) hg
        clear hdep hLi
        go_wp2_with fail
        exact ⟨upd v 25 (.pointer (some ⟨w.heap.size, 12, none⟩)), by simp [upd, h24, hgv], Hb.out, Hhk0.out, Hhk1.out, (by simpa using Hhst.out), upd_vals HF.out (fun _ => rfl)⟩
      · have hg2 : ((((Key.ported ⟨k0, k1, k2, k3, k4⟩) && (decide (flags < 64))) && (saneB flags.toNat)) && (betweenB window 0 65535)) = false := by simpa using hg
        rw [hg2] at hgv
        clear hdep hLi
        go_wp2_with fail
        exact ⟨upd v 25 undef, by simp [upd, hgv], Hb.out, Hhk0.out, Hhk1.out, (by simpa using Hhst.out), upd_vals HF.out (fun h => absurd h hg)⟩
    · -- operation 26: load
      simp at hoi; subst hoi
      have hgv : v 23 = .bool ((((Key.ported ⟨k0, k1, k2, k3, k4⟩) && (decide (flags < 64))) && (saneB flags.toNat)) && (betweenB window 0 65535)) := HF.out 23 (hdep ⟨23, .guard⟩ (by simp) rfl)
      by_cases hg : ((((Key.ported ⟨k0, k1, k2, k3, k4⟩) && (decide (flags < 64))) && (saneB flags.toNat)) && (betweenB window 0 65535)) = true
      · rw [hg] at hgv
        have h25 : v 25 = .pointer (some ⟨w.heap.size, 12, none⟩) := HF.out 25 (hdep ⟨25, .data⟩ (by simp) rfl) hg
        have hcx := Hhk0.out.cell
        clear hdep hLi
        go_wp2_with fail
        exact ⟨upd v 26 (.int .i64 length), by simp [upd, h25, hgv], Hb.out, Hhk0.out, Hhk1.out, (by simpa using Hhst.out), upd_vals HF.out (fun _ => rfl)⟩
      · have hg2 : ((((Key.ported ⟨k0, k1, k2, k3, k4⟩) && (decide (flags < 64))) && (saneB flags.toNat)) && (betweenB window 0 65535)) = false := by simpa using hg
        rw [hg2] at hgv
        clear hdep hLi
        go_wp2_with fail
        exact ⟨upd v 26 undef, by simp [upd, hgv], Hb.out, Hhk0.out, Hhk1.out, (by simpa using Hhst.out), upd_vals HF.out (fun h => absurd h hg)⟩
    · -- operation 27: call
      simp at hoi; subst hoi
      have hgv : v 23 = .bool ((((Key.ported ⟨k0, k1, k2, k3, k4⟩) && (decide (flags < 64))) && (saneB flags.toNat)) && (betweenB window 0 65535)) := HF.out 23 (hdep ⟨23, .guard⟩ (by simp) rfl)
      by_cases hg : ((((Key.ported ⟨k0, k1, k2, k3, k4⟩) && (decide (flags < 64))) && (saneB flags.toNat)) && (betweenB window 0 65535)) = true
      · rw [hg] at hgv
        have h26 : v 26 = .int .i64 length := HF.out 26 (hdep ⟨26, .data⟩ (by simp) rfl) hg
        clear hdep hLi
        go_wp2_with fail
        refine (between_any _ _ _ _).mono ?_
        rintro e w2 ⟨rfl, rfl⟩
        go_wp2_with fail
        exact ⟨upd v 27 (.bool (betweenB length 0 65495)), by simp [upd, h26, hgv], Hb.out, Hhk0.out, Hhk1.out, (by simpa using Hhst.out), upd_vals HF.out (fun _ => rfl)⟩
      · have hg2 : ((((Key.ported ⟨k0, k1, k2, k3, k4⟩) && (decide (flags < 64))) && (saneB flags.toNat)) && (betweenB window 0 65535)) = false := by simpa using hg
        rw [hg2] at hgv
        clear hdep hLi
        go_wp2_with fail
        exact ⟨upd v 27 undef, by simp [upd, hgv], Hb.out, Hhk0.out, Hhk1.out, (by simpa using Hhst.out), upd_vals HF.out (fun h => absurd h hg)⟩
    · -- operation 28: pick
      simp at hoi; subst hoi
      by_cases hg : ((((Key.ported ⟨k0, k1, k2, k3, k4⟩) && (decide (flags < 64))) && (saneB flags.toNat)) && (betweenB window 0 65535)) = true
      ·
        have h23 : v 23 = .bool ((((Key.ported ⟨k0, k1, k2, k3, k4⟩) && (decide (flags < 64))) && (saneB flags.toNat)) && (betweenB window 0 65535)) := HF.out 23 (hdep ⟨23, .data⟩ (by simp) rfl)
        have h27 : v 27 = .bool (betweenB length 0 65495) := HF.out 27 (hdep ⟨27, .data⟩ (by simp) rfl) hg
        clear hdep hLi
        go_wp2_with fail
        exact ⟨upd v 28 (.bool (((((Key.ported ⟨k0, k1, k2, k3, k4⟩) && (decide (flags < 64))) && (saneB flags.toNat)) && (betweenB window 0 65535)) && (betweenB length 0 65495))), by simp [upd, h23, h27, hg], Hb.out, Hhk0.out, Hhk1.out, (by simpa using Hhst.out), upd_vals HF.out (rfl)⟩
      · have hg2 : ((((Key.ported ⟨k0, k1, k2, k3, k4⟩) && (decide (flags < 64))) && (saneB flags.toNat)) && (betweenB window 0 65535)) = false := by simpa using hg
        have h23 : v 23 = .bool ((((Key.ported ⟨k0, k1, k2, k3, k4⟩) && (decide (flags < 64))) && (saneB flags.toNat)) && (betweenB window 0 65535)) := HF.out 23 (hdep ⟨23, .data⟩ (by simp) rfl)
        clear hdep hLi
        go_wp2_with fail
        exact ⟨upd v 28 (.bool (((((Key.ported ⟨k0, k1, k2, k3, k4⟩) && (decide (flags < 64))) && (saneB flags.toNat)) && (betweenB window 0 65535)) && (betweenB length 0 65495))), by simp [upd, h23, hg2], Hb.out, Hhk0.out, Hhk1.out, (by simpa using Hhst.out), upd_vals HF.out (rfl)⟩
    · -- operation 29: store
      simp at hoi; subst hoi
      have h0 : v 0 = .agg #[.int .u8 k0, .int .u32 k1, .int .u32 k2, .int .u16 k3, .int .u16 k4, .int .u8 kind, .int .u8 flags, .int .u8 0, .int .u8 0, .int .u32 seqn, .int .u32 ackn, .int .i64 window, .int .i64 length, .int .u8 0, .int .u32 0, .int .u32 0, .int .u16 0, .int .u16 0, .int .u8 0] := HF.out 0 (hdep ⟨0, .data⟩ (by simp) rfl)
      have hst := Hhst.out
      rw [hLi, stSel_no] at hst
      clear hdep hLi
      refine wpList_store_row rfl 72 (.tmp 2) (.tmp 28) rfl (w.heap.size + 1) #[.int .u8 k0, .int .u32 k1, .int .u32 k2, .int .u16 k3, .int .u16 k4, .int .u8 kind, .int .u8 flags, .int .u8 0, .int .u8 0, .int .u32 seqn, .int .u32 ackn, .int .i64 window, .int .i64 length, .int .u8 0, .int .u32 0, .int .u32 0, .int .u16 0, .int .u16 0, .int .u8 0] rfl (by simp [Act.eval, h0]) _ _ hst (by kernel_rfl) (by simp) (by simp [Value.oneCell']) ?_
      go_wp2_with fail
      exact ⟨upd v 29 undef, by simp [Act.put, upd, h0], below_setRow Hb.out (by omega) _, (setRow_other _ _ _ _ (by omega)).trans Hhk0.out, (setRow_other _ _ _ _ (by omega)).trans Hhk1.out, setRow_heap _ _ _ #[.int .u8 k0, .int .u32 k1, .int .u32 k2, .int .u16 k3, .int .u16 k4, .int .u8 kind, .int .u8 flags, .int .u8 0, .int .u8 0, .int .u32 seqn, .int .u32 ackn, .int .i64 window, .int .i64 length, .int .u8 0, .int .u32 0, .int .u32 0, .int .u16 0, .int .u16 0, .int .u8 0] _ _ hst, upd_vals HF.out trivial⟩
    · -- operation 30: assign
      simp at hoi; subst hoi
      have h28 : v 28 = .bool (((((Key.ported ⟨k0, k1, k2, k3, k4⟩) && (decide (flags < 64))) && (saneB flags.toNat)) && (betweenB window 0 65535)) && (betweenB length 0 65495)) := HF.out 28 (hdep ⟨28, .data⟩ (by simp) rfl)
      clear hdep hLi
      go_wp2_with fail
      exact ⟨upd v 30 (.bool (((((Key.ported ⟨k0, k1, k2, k3, k4⟩) && (decide (flags < 64))) && (saneB flags.toNat)) && (betweenB window 0 65535)) && (betweenB length 0 65495))), by simp [upd, h28], Hb.out, Hhk0.out, Hhk1.out, (by simpa using Hhst.out), upd_vals HF.out (rfl)⟩
  case h0 => exact ⟨fun j => if j = 30 then .bool false else undef, rfl, (Below.refl _ _).drew, bl0.drew, bl2.drew, bl1.drew, fun j hj => by cases hj⟩
  case hend =>
    intro L a W hL ⟨v, ha, hb, hk0, hk1, hst, hF⟩
    have hl : v 30 = .bool (((((Key.ported ⟨k0, k1, k2, k3, k4⟩) && (decide (flags < 64))) && (saneB flags.toNat)) && (betweenB window 0 65535)) && (betweenB length 0 65495)) := hF 30 (hL 30 (by decide))
    rw [hL 29 (by decide), stSel_yes] at hst
    subst ha
    clear hF hL hk0 hk1
    go_wp2_with fail
    refine bodyPost_ret (v := .tuple #[.agg #[.int .u8 k0, .int .u32 k1, .int .u32 k2, .int .u16 k3, .int .u16 k4, .int .u8 kind, .int .u8 flags, .int .u8 0, .int .u8 0, .int .u32 seqn, .int .u32 ackn, .int .i64 window, .int .i64 length, .int .u8 0, .int .u32 0, .int .u32 0, .int .u16 0, .int .u16 0, .int .u8 0], .bool (((((Key.ported ⟨k0, k1, k2, k3, k4⟩) && (decide (flags < 64))) && (saneB flags.toNat)) && (betweenB window 0 65535)) && (betweenB length 0 65495))]) ((results_cell_tmp Tryz.results42 _ _ _ _ _ _ _ rfl hst Tryz.underlying72 rfl (by kernel_rfl)).trans ?_) rfl ⟨rfl, hb0.trans hb⟩
    simp [hl]

def QueryF (b : Nat) (k0 k1 k2 k3 k4 kind _flags type code _seqn _ackn _window length e1 e2 : Int) : Nat → Value → Prop
  | 0, x => x = .agg #[.int .u8 k0, .int .u32 k1, .int .u32 k2, .int .u16 k3, .int .u16 k4, .int .u8 kind, .int .u8 0, .int .u8 type, .int .u8 code, .int .u32 0, .int .u32 0, .int .i64 0, .int .i64 length, .int .u8 0, .int .u32 0, .int .u32 0, .int .u16 0, .int .u16 0, .int .u8 0]
  | 1, x => x = .int .i64 e2
  | 2, x => x = .bool (e2 == 0)
  | 3, x => x = .bool (e2 == 0)
  | 4, x => (e2 == 0) = true → x = .int .u8 e1
  | 5, x => (e2 == 0) = true → x = .pointer (some ⟨b, 0, none⟩)
  | 6, x => (e2 == 0) = true → x = .pointer (some ⟨b, 5, none⟩)
  | 7, x => (e2 == 0) = true → x = .int .u8 kind
  | 8, x => (e2 == 0) = true → x = .bool (e1 == kind)
  | 9, x => x = .bool ((e2 == 0) && (e1 == kind))
  | 10, x => x = .bool ((e2 == 0) && (e1 == kind))
  | 11, x => ((e2 == 0) && (e1 == kind)) = true → x = .pointer (some ⟨b, 0, none⟩)
  | 12, x => ((e2 == 0) && (e1 == kind)) = true → x = .pointer (some ⟨b, 0, none⟩)
  | 13, x => ((e2 == 0) && (e1 == kind)) = true → x = .pointer (some ⟨b, 3, none⟩)
  | 14, x => ((e2 == 0) && (e1 == kind)) = true → x = .int .u16 k3
  | 15, x => ((e2 == 0) && (e1 == kind)) = true → x = .pointer (some ⟨b, 0, none⟩)
  | 16, x => ((e2 == 0) && (e1 == kind)) = true → x = .pointer (some ⟨b, 0, none⟩)
  | 17, x => ((e2 == 0) && (e1 == kind)) = true → x = .pointer (some ⟨b, 4, none⟩)
  | 18, x => ((e2 == 0) && (e1 == kind)) = true → x = .int .u16 k4
  | 19, x => ((e2 == 0) && (e1 == kind)) = true → x = .bool (k3 == k4)
  | 20, x => x = .bool (((e2 == 0) && (e1 == kind)) && (k3 == k4))
  | 21, x => x = .bool (((e2 == 0) && (e1 == kind)) && (k3 == k4))
  | 22, x => (((e2 == 0) && (e1 == kind)) && (k3 == k4)) = true → x = .pointer (some ⟨b, 0, none⟩)
  | 23, x => (((e2 == 0) && (e1 == kind)) && (k3 == k4)) = true → x = .pointer (some ⟨b, 12, none⟩)
  | 24, x => (((e2 == 0) && (e1 == kind)) && (k3 == k4)) = true → x = .int .i64 length
  | 25, x => (((e2 == 0) && (e1 == kind)) && (k3 == k4)) = true → x = .bool (betweenB length 0 65507)
  | 26, x => x = .bool ((((e2 == 0) && (e1 == kind)) && (k3 == k4)) && (betweenB length 0 65507))
  | 27, _ => True
  | 28, x => x = .bool ((((e2 == 0) && (e1 == kind)) && (k3 == k4)) && (betweenB length 0 65507))
  | _, _ => True

set_option maxRecDepth 100000 in
set_option maxHeartbeats 4000000 in
theorem rightQuery_any (f : Facts) (w : World) (hs : SortsAt w) (ht0 : 0 ≤ f.type) (ht1 : f.type < 256) (hc0 : 0 ≤ f.code) :
    Calls Tryz.prog 46 #[f.val] w fun e w' => e = .returned (.tuple #[f.queryPart.val, .bool f.rightQuery]) ∧ Below w.heap.size w w' := by
  obtain ⟨⟨k0, k1, k2, k3, k4⟩, kind, flags, type, code, seqn, ackn, window, length, ⟨q0, q1, q2, q3, q4⟩, qkind⟩ := f
  dsimp only [Facts.queryPart, Facts.rightQuery, Facts.zero, Key.zero, Facts.val, Facts.cells, Key.cells, List.cons_append, List.nil_append]
  have Hs := Lib.hid hs
  clear hs
  have t0 := Lib.hid ht0
  have t1 := Lib.hid ht1
  have c0 := Lib.hid hc0
  clear ht0 ht1 hc0
  dsimp only at t0 t1 c0
  have HK := Lib.hid (fun (W : World) (h : SortsAt W) => kindI_any type code W t0.out t1.out c0.out h)
  generalize kind1 type.toNat code.toNat = e1 at HK ⊢
  generalize kind2 type.toNat code.toNat = e2 at HK ⊢
  go_enter Tryz.func46, Tryz.ntmps46
  go_upto_region 1 with (first | ((with_reducible refine look_store ?_); refine wpList_store_new rfl _ _ _ rfl _ _ rfl rfl _ _ (by first | (simp only [World.size_alloc] <;> omega) | rfl | omega) (by kernel_rfl) (by simp) (by simp [Value.oneCell']) ?_) | (go_at_call 20; refine (HK.out _ Hs.out).mono ?_; rintro e w2 ⟨rfl, rfl⟩) | fail)
  have bl0 := (Blk.new w 72 #[.int .u8 k0, .int .u32 k1, .int .u32 k2, .int .u16 k3, .int .u16 k4, .int .u8 kind, .int .u8 flags, .int .u8 type, .int .u8 code, .int .u32 seqn, .int .u32 ackn, .int .i64 window, .int .i64 length, .int .u8 q0, .int .u32 q1, .int .u32 q2, .int .u16 q3, .int .u16 q4, .int .u8 qkind]).alloc (.cells #[.int .u8 0, .int .u32 0, .int .u32 0, .int .u16 0, .int .u16 0, .int .u8 0, .int .u8 0, .int .u8 0, .int .u8 0, .int .u32 0, .int .u32 0, .int .i64 0, .int .i64 0, .int .u8 0, .int .u32 0, .int .u32 0, .int .u16 0, .int .u16 0, .int .u8 0] 72)
  have bl1 := Blk.new (w.alloc (.cells #[.int .u8 k0, .int .u32 k1, .int .u32 k2, .int .u16 k3, .int .u16 k4, .int .u8 kind, .int .u8 flags, .int .u8 type, .int .u8 code, .int .u32 seqn, .int .u32 ackn, .int .i64 window, .int .i64 length, .int .u8 q0, .int .u32 q1, .int .u32 q2, .int .u16 q3, .int .u16 q4, .int .u8 qkind] 72)) 72 #[.int .u8 0, .int .u32 0, .int .u32 0, .int .u16 0, .int .u16 0, .int .u8 0, .int .u8 0, .int .u8 0, .int .u8 0, .int .u32 0, .int .u32 0, .int .i64 0, .int .i64 0, .int .u8 0, .int .u32 0, .int .u32 0, .int .u16 0, .int .u16 0, .int .u8 0]
  simp only [World.size_alloc] at bl1
  have hb0 : Below w.heap.size w ((w.alloc (.cells #[.int .u8 k0, .int .u32 k1, .int .u32 k2, .int .u16 k3, .int .u16 k4, .int .u8 kind, .int .u8 flags, .int .u8 type, .int .u8 code, .int .u32 seqn, .int .u32 ackn, .int .i64 window, .int .i64 length, .int .u8 q0, .int .u32 q1, .int .u32 q2, .int .u16 q3, .int .u16 q4, .int .u8 qkind] 72)).alloc (.cells #[.int .u8 0, .int .u32 0, .int .u32 0, .int .u16 0, .int .u16 0, .int .u8 0, .int .u8 0, .int .u8 0, .int .u8 0, .int .u32 0, .int .u32 0, .int .i64 0, .int .i64 0, .int .u8 0, .int .u32 0, .int .u32 0, .int .u16 0, .int .u16 0, .int .u8 0] 72)) := ((Below.refl _ _).alloc (Nat.le_refl _) _).alloc (by simp) _
  have hs_wa : ((w.alloc (.cells #[.int .u8 k0, .int .u32 k1, .int .u32 k2, .int .u16 k3, .int .u16 k4, .int .u8 kind, .int .u8 flags, .int .u8 type, .int .u8 code, .int .u32 seqn, .int .u32 ackn, .int .i64 window, .int .i64 length, .int .u8 q0, .int .u32 q1, .int .u32 q2, .int .u16 q3, .int .u16 q4, .int .u8 qkind] 72)).alloc (.cells #[.int .u8 0, .int .u32 0, .int .u32 0, .int .u16 0, .int .u16 0, .int .u8 0, .int .u8 0, .int .u8 0, .int .u8 0, .int .u32 0, .int .u32 0, .int .i64 0, .int .i64 0, .int .u8 0, .int .u32 0, .int .u32 0, .int .u16 0, .int .u16 0, .int .u8 0] 72)).heap.size = w.heap.size + 2 := by simp
  replace Hs := Lib.hid ((Hs.out.alloc (.cells #[.int .u8 k0, .int .u32 k1, .int .u32 k2, .int .u16 k3, .int .u16 k4, .int .u8 kind, .int .u8 flags, .int .u8 type, .int .u8 code, .int .u32 seqn, .int .u32 ackn, .int .i64 window, .int .i64 length, .int .u8 q0, .int .u32 q1, .int .u32 q2, .int .u16 q3, .int .u16 q4, .int .u8 qkind] 72)).alloc (.cells #[.int .u8 0, .int .u32 0, .int .u32 0, .int .u16 0, .int .u16 0, .int .u8 0, .int .u8 0, .int .u8 0, .int .u8 0, .int .u32 0, .int .u32 0, .int .i64 0, .int .i64 0, .int .u8 0, .int .u32 0, .int .u32 0, .int .u16 0, .int .u16 0, .int .u8 0] 72))
  generalize ((w.alloc (.cells #[.int .u8 k0, .int .u32 k1, .int .u32 k2, .int .u16 k3, .int .u16 k4, .int .u8 kind, .int .u8 flags, .int .u8 type, .int .u8 code, .int .u32 seqn, .int .u32 ackn, .int .i64 window, .int .i64 length, .int .u8 q0, .int .u32 q1, .int .u32 q2, .int .u16 q3, .int .u16 q4, .int .u8 qkind] 72)).alloc (.cells #[.int .u8 0, .int .u32 0, .int .u32 0, .int .u16 0, .int .u16 0, .int .u8 0, .int .u8 0, .int .u8 0, .int .u8 0, .int .u32 0, .int .u32 0, .int .i64 0, .int .i64 0, .int .u8 0, .int .u32 0, .int .u32 0, .int .u16 0, .int .u16 0, .int .u8 0] 72)) = wa at *
  have hcx := bl0.cell
  go_upto_region 3 with (first | ((with_reducible refine look_store ?_); refine wpList_store_new rfl _ _ _ rfl _ _ rfl rfl _ _ (by first | (simp only [World.size_alloc] <;> omega) | rfl | omega) (by kernel_rfl) (by simp) (by simp [Value.oneCell']) ?_) | (go_at_call 20; refine (HK.out _ Hs.out).mono ?_; rintro e w2 ⟨rfl, rfl⟩) | fail)
  clear hcx
  replace bl0 := (bl0.alloc (.cells #[.int .u8 k0, .int .u32 k1, .int .u32 k2, .int .u16 k3, .int .u16 k4, .int .u8 kind, .int .u8 0, .int .u8 type, .int .u8 code, .int .u32 0, .int .u32 0, .int .i64 0, .int .i64 length, .int .u8 0, .int .u32 0, .int .u32 0, .int .u16 0, .int .u16 0, .int .u8 0] 72))
  replace bl1 := (bl1.alloc (.cells #[.int .u8 k0, .int .u32 k1, .int .u32 k2, .int .u16 k3, .int .u16 k4, .int .u8 kind, .int .u8 0, .int .u8 type, .int .u8 code, .int .u32 0, .int .u32 0, .int .i64 0, .int .i64 length, .int .u8 0, .int .u32 0, .int .u32 0, .int .u16 0, .int .u16 0, .int .u8 0] 72))
  have bl2 := Blk.new wa 72 #[.int .u8 k0, .int .u32 k1, .int .u32 k2, .int .u16 k3, .int .u16 k4, .int .u8 kind, .int .u8 0, .int .u8 type, .int .u8 code, .int .u32 0, .int .u32 0, .int .i64 0, .int .i64 length, .int .u8 0, .int .u32 0, .int .u32 0, .int .u16 0, .int .u16 0, .int .u8 0]
  simp only [hs_wa] at bl2
  replace hb0 : Below w.heap.size w (wa.alloc (.cells #[.int .u8 k0, .int .u32 k1, .int .u32 k2, .int .u16 k3, .int .u16 k4, .int .u8 kind, .int .u8 0, .int .u8 type, .int .u8 code, .int .u32 0, .int .u32 0, .int .i64 0, .int .i64 length, .int .u8 0, .int .u32 0, .int .u32 0, .int .u16 0, .int .u16 0, .int .u8 0] 72)) := (hb0).alloc (by omega) _
  have hs_wr : (wa.alloc (.cells #[.int .u8 k0, .int .u32 k1, .int .u32 k2, .int .u16 k3, .int .u16 k4, .int .u8 kind, .int .u8 0, .int .u8 type, .int .u8 code, .int .u32 0, .int .u32 0, .int .i64 0, .int .i64 length, .int .u8 0, .int .u32 0, .int .u32 0, .int .u16 0, .int .u16 0, .int .u8 0] 72)).heap.size = w.heap.size + 3 := by simp only [World.size_alloc, hs_wa]
  replace Hs := Lib.hid (Hs.out.alloc (.cells #[.int .u8 k0, .int .u32 k1, .int .u32 k2, .int .u16 k3, .int .u16 k4, .int .u8 kind, .int .u8 0, .int .u8 type, .int .u8 code, .int .u32 0, .int .u32 0, .int .i64 0, .int .i64 length, .int .u8 0, .int .u32 0, .int .u32 0, .int .u16 0, .int .u16 0, .int .u8 0] 72))
  generalize (wa.alloc (.cells #[.int .u8 k0, .int .u32 k1, .int .u32 k2, .int .u16 k3, .int .u16 k4, .int .u8 kind, .int .u8 0, .int .u8 type, .int .u8 code, .int .u32 0, .int .u32 0, .int .i64 0, .int .i64 length, .int .u8 0, .int .u32 0, .int .u32 0, .int .u16 0, .int .u16 0, .int .u8 0] 72)) = wr at *
  have hsz0 := hb0.size
  refine wp_region_inv (by kernel_rfl) (depsOk_spec (by kernel_rfl)) (fun L a W => ∃ v : Nat → Value, a = { tmps := #[.agg #[.int .u8 k0, .int .u32 k1, .int .u32 k2, .int .u16 k3, .int .u16 k4, .int .u8 kind, .int .u8 flags, .int .u8 type, .int .u8 code, .int .u32 seqn, .int .u32 ackn, .int .i64 window, .int .i64 length, .int .u8 q0, .int .u32 q1, .int .u32 q2, .int .u16 q3, .int .u16 q4, .int .u8 qkind], .pointer (some ⟨w.heap.size, 0, none⟩), .pointer (some ⟨w.heap.size + 1, 0, none⟩), v 28, .int .u8 e1, .int .i64 e2, .pointer (some ⟨w.heap.size + 2, 0, none⟩), .tuple #[.int .u8 e1, .int .i64 e2], .pointer (some ⟨w.heap.size, 0, none⟩), .pointer (some ⟨w.heap.size, 7, none⟩), .int .u8 type, .pointer (some ⟨w.heap.size, 0, none⟩), .pointer (some ⟨w.heap.size, 8, none⟩), .int .u8 code, .tuple #[.int .u8 e1, .int .i64 e2], .int .u8 e1, .int .i64 e2, .pointer (some ⟨w.heap.size, 0, none⟩), .pointer (some ⟨w.heap.size, 5, none⟩), .int .u8 kind, .pointer (some ⟨w.heap.size, 0, none⟩), .pointer (some ⟨w.heap.size, 0, none⟩), .agg #[.int .u8 k0, .int .u32 k1, .int .u32 k2, .int .u16 k3, .int .u16 k4], .pointer (some ⟨w.heap.size, 0, none⟩), .pointer (some ⟨w.heap.size, 7, none⟩), .int .u8 type, .pointer (some ⟨w.heap.size, 0, none⟩), .pointer (some ⟨w.heap.size, 8, none⟩), .int .u8 code, .pointer (some ⟨w.heap.size, 0, none⟩), .pointer (some ⟨w.heap.size, 12, none⟩), .int .i64 length, .agg #[.int .u8 k0, .int .u32 k1, .int .u32 k2, .int .u16 k3, .int .u16 k4, .int .u8 kind, .int .u8 0, .int .u8 type, .int .u8 code, .int .u32 0, .int .u32 0, .int .i64 0, .int .i64 length, .int .u8 0, .int .u32 0, .int .u32 0, .int .u16 0, .int .u16 0, .int .u8 0], .agg #[.int .u8 k0, .int .u32 k1, .int .u32 k2, .int .u16 k3, .int .u16 k4, .int .u8 kind, .int .u8 0, .int .u8 type, .int .u8 code, .int .u32 0, .int .u32 0, .int .i64 0, .int .i64 length, .int .u8 0, .int .u32 0, .int .u32 0, .int .u16 0, .int .u16 0, .int .u8 0], v 0, v 1, v 2, v 3, v 4, v 5, v 6, v 7, v 8, v 9, v 10, v 11, v 12, v 13, v 14, v 15, v 16, v 17, v 18, v 19, v 20, v 21, v 22, v 23, v 24, v 25, v 26], defers := [] } ∧ Below (w.heap.size) (wr) W ∧ Blk W (w.heap.size) 72 #[.int .u8 k0, .int .u32 k1, .int .u32 k2, .int .u16 k3, .int .u16 k4, .int .u8 kind, .int .u8 flags, .int .u8 type, .int .u8 code, .int .u32 seqn, .int .u32 ackn, .int .i64 window, .int .i64 length, .int .u8 q0, .int .u32 q1, .int .u32 q2, .int .u16 q3, .int .u16 q4, .int .u8 qkind] ∧ Blk W (w.heap.size + 2) 72 #[.int .u8 k0, .int .u32 k1, .int .u32 k2, .int .u16 k3, .int .u16 k4, .int .u8 kind, .int .u8 0, .int .u8 type, .int .u8 code, .int .u32 0, .int .u32 0, .int .i64 0, .int .i64 length, .int .u8 0, .int .u32 0, .int .u32 0, .int .u16 0, .int .u16 0, .int .u8 0] ∧ Blk W (w.heap.size + 1) 72 (stSel (L 27) #[.int .u8 k0, .int .u32 k1, .int .u32 k2, .int .u16 k3, .int .u16 k4, .int .u8 kind, .int .u8 0, .int .u8 type, .int .u8 code, .int .u32 0, .int .u32 0, .int .i64 0, .int .i64 length, .int .u8 0, .int .u32 0, .int .u32 0, .int .u16 0, .int .u16 0, .int .u8 0] #[.int .u8 0, .int .u32 0, .int .u32 0, .int .u16 0, .int .u16 0, .int .u8 0, .int .u8 0, .int .u8 0, .int .u8 0, .int .u32 0, .int .u32 0, .int .i64 0, .int .i64 0, .int .u8 0, .int .u32 0, .int .u32 0, .int .u16 0, .int .u16 0, .int .u8 0]) ∧ ∀ j, L j = true → QueryF w.heap.size k0 k1 k2 k3 k4 kind flags type code seqn ackn window length e1 e2 j (v j)) ?h0 ?hstep ?hend
  case hstep =>
    intro L a W i o hoi hLi hdep ⟨v, ha, hb, hk0, hk1, hst, hF⟩
    subst ha
    have hi : i < 29 := (Array.getElem?_eq_some_iff.1 hoi).1
    have HF := Lib.hid hF
    have Hb := Lib.hid hb
    have hszW := Nat.le_trans hsz0 hb.size
    have Hhk0 := Lib.hid hk0
    have Hhk1 := Lib.hid hk1
    have Hhst := Lib.hid hst
    clear hF hb hk0 hk1 hst
    rcases (show i = 0 ∨ i = 1 ∨ i = 2 ∨ i = 3 ∨ i = 4 ∨ i = 5 ∨ i = 6 ∨ i = 7 ∨ i = 8 ∨ i = 9 ∨ i = 10 ∨ i = 11 ∨ i = 12 ∨ i = 13 ∨ i = 14 ∨ i = 15 ∨ i = 16 ∨ i = 17 ∨ i = 18 ∨ i = 19 ∨ i = 20 ∨ i = 21 ∨ i = 22 ∨ i = 23 ∨ i = 24 ∨ i = 25 ∨ i = 26 ∨ i = 27 ∨ i = 28 by omega) with rfl | rfl | rfl | rfl | rfl | rfl | rfl | rfl | rfl | rfl | rfl | rfl | rfl | rfl | rfl | rfl | rfl | rfl | rfl | rfl | rfl | rfl | rfl | rfl | rfl | rfl | rfl | rfl | rfl
    · -- operation 0: load
      simp at hoi; subst hoi
      clear hdep hLi
      refine wpList_load_row rfl 72 (.tmp 6) rfl (w.heap.size + 2) (by simp [Act.eval]) _ _ _ _ Hhk1.out Tryz.underlying72 rfl (by kernel_rfl) ?_
      go_wp2_with fail
      exact ⟨upd v 0 (.agg #[.int .u8 k0, .int .u32 k1, .int .u32 k2, .int .u16 k3, .int .u16 k4, .int .u8 kind, .int .u8 0, .int .u8 type, .int .u8 code, .int .u32 0, .int .u32 0, .int .i64 0, .int .i64 length, .int .u8 0, .int .u32 0, .int .u32 0, .int .u16 0, .int .u16 0, .int .u8 0]), by simp [upd, Act.put], Hb.out, Hhk0.out, Hhk1.out, (by simpa using Hhst.out), upd_vals HF.out (rfl)⟩
    · -- operation 1: move
      simp at hoi; subst hoi
      clear hdep hLi
      go_wp2_with fail
      exact ⟨upd v 1 (.int .i64 e2), by simp [upd], Hb.out, Hhk0.out, Hhk1.out, (by simpa using Hhst.out), upd_vals HF.out (rfl)⟩
    · -- operation 2: binOp
      simp at hoi; subst hoi
      have h1 : v 1 = .int .i64 e2 := HF.out 1 (hdep ⟨1, .data⟩ (by simp) rfl)
      clear hdep hLi
      go_wp2_with fail
      exact ⟨upd v 2 (.bool (e2 == 0)), by simp [upd, h1], Hb.out, Hhk0.out, Hhk1.out, (by simpa using Hhst.out), upd_vals HF.out (rfl)⟩
    · -- operation 3: move
      simp at hoi; subst hoi
      have h2 : v 2 = .bool (e2 == 0) := HF.out 2 (hdep ⟨2, .data⟩ (by simp) rfl)
      clear hdep hLi
      go_wp2_with fail
      exact ⟨upd v 3 (.bool (e2 == 0)), by simp [upd, h2], Hb.out, Hhk0.out, Hhk1.out, (by simpa using Hhst.out), upd_vals HF.out (rfl)⟩
    · -- operation 4: move
      simp at hoi; subst hoi
      have hgv : v 3 = .bool (e2 == 0) := HF.out 3 (hdep ⟨3, .guard⟩ (by simp) rfl)
      by_cases hg : (e2 == 0) = true
      · rw [hg] at hgv
        clear hdep hLi
        go_wp2_with fail
        exact ⟨upd v 4 (.int .u8 e1), by simp [upd, hgv], Hb.out, Hhk0.out, Hhk1.out, (by simpa using Hhst.out), upd_vals HF.out (fun _ => rfl)⟩
      · have hg2 : (e2 == 0) = false := by simpa using hg
        rw [hg2] at hgv
        clear hdep hLi
        go_wp2_with fail
        exact ⟨upd v 4 undef, by simp [upd, hgv], Hb.out, Hhk0.out, Hhk1.out, (by simpa using Hhst.out), upd_vals HF.out (fun h => absurd h hg)⟩
    · -- operation 5: fieldAddr
      simp at hoi; subst hoi
      have hgv : v 3 = .bool (e2 == 0) := HF.out 3 (hdep ⟨3, .guard⟩ (by simp) rfl)
      by_cases hg : (e2 == 0) = true
      · rw [hg] at hgv
        clear hdep hLi
        go_wp2_with fail
        exact ⟨upd v 5 (.pointer (some ⟨w.heap.size, 0, none⟩)), by simp [upd, hgv], Hb.out, Hhk0.out, Hhk1.out, (by simpa using Hhst.out), upd_vals HF.out (fun _ => rfl)⟩
      · have hg2 : (e2 == 0) = false := by simpa using hg
        rw [hg2] at hgv
        clear hdep hLi
        go_wp2_with fail
        exact ⟨upd v 5 undef, by simp [upd, hgv], Hb.out, Hhk0.out, Hhk1.out, (by simpa using Hhst.out), upd_vals HF.out (fun h => absurd h hg)⟩
    · -- operation 6: fieldAddr
      simp at hoi; subst hoi
      have hgv : v 3 = .bool (e2 == 0) := HF.out 3 (hdep ⟨3, .guard⟩ (by simp) rfl)
      by_cases hg : (e2 == 0) = true
      · rw [hg] at hgv
        have h5 : v 5 = .pointer (some ⟨w.heap.size, 0, none⟩) := HF.out 5 (hdep ⟨5, .data⟩ (by simp) rfl) hg
        clear hdep hLi
        go_wp2_with fail
        exact ⟨upd v 6 (.pointer (some ⟨w.heap.size, 5, none⟩)), by simp [upd, h5, hgv], Hb.out, Hhk0.out, Hhk1.out, (by simpa using Hhst.out), upd_vals HF.out (fun _ => rfl)⟩
      · have hg2 : (e2 == 0) = false := by simpa using hg
        rw [hg2] at hgv
        clear hdep hLi
        go_wp2_with fail
        exact ⟨upd v 6 undef, by simp [upd, hgv], Hb.out, Hhk0.out, Hhk1.out, (by simpa using Hhst.out), upd_vals HF.out (fun h => absurd h hg)⟩
    · -- operation 7: load
      simp at hoi; subst hoi
      have hgv : v 3 = .bool (e2 == 0) := HF.out 3 (hdep ⟨3, .guard⟩ (by simp) rfl)
      by_cases hg : (e2 == 0) = true
      · rw [hg] at hgv
        have h6 : v 6 = .pointer (some ⟨w.heap.size, 5, none⟩) := HF.out 6 (hdep ⟨6, .data⟩ (by simp) rfl) hg
        have hcx := Hhk0.out.cell
        clear hdep hLi
        go_wp2_with fail
        exact ⟨upd v 7 (.int .u8 kind), by simp [upd, h6, hgv], Hb.out, Hhk0.out, Hhk1.out, (by simpa using Hhst.out), upd_vals HF.out (fun _ => rfl)⟩
      · have hg2 : (e2 == 0) = false := by simpa using hg
        rw [hg2] at hgv
        clear hdep hLi
        go_wp2_with fail
        exact ⟨upd v 7 undef, by simp [upd, hgv], Hb.out, Hhk0.out, Hhk1.out, (by simpa using Hhst.out), upd_vals HF.out (fun h => absurd h hg)⟩
    · -- operation 8: binOp
      simp at hoi; subst hoi
      have hgv : v 3 = .bool (e2 == 0) := HF.out 3 (hdep ⟨3, .guard⟩ (by simp) rfl)
      by_cases hg : (e2 == 0) = true
      · rw [hg] at hgv
        have h4 : v 4 = .int .u8 e1 := HF.out 4 (hdep ⟨4, .data⟩ (by simp) rfl) hg
        have h7 : v 7 = .int .u8 kind := HF.out 7 (hdep ⟨7, .data⟩ (by simp) rfl) hg
        clear hdep hLi
        go_wp2_with fail
        exact ⟨upd v 8 (.bool (e1 == kind)), by simp [upd, h4, h7, hgv], Hb.out, Hhk0.out, Hhk1.out, (by simpa using Hhst.out), upd_vals HF.out (fun _ => rfl)⟩
      · have hg2 : (e2 == 0) = false := by simpa using hg
        rw [hg2] at hgv
        clear hdep hLi
        go_wp2_with fail
        exact ⟨upd v 8 undef, by simp [upd, hgv], Hb.out, Hhk0.out, Hhk1.out, (by simpa using Hhst.out), upd_vals HF.out (fun h => absurd h hg)⟩
    · -- operation 9: pick
      simp at hoi; subst hoi
      by_cases hg : (e2 == 0) = true
      ·
        have h3 : v 3 = .bool (e2 == 0) := HF.out 3 (hdep ⟨3, .data⟩ (by simp) rfl)
        have h8 : v 8 = .bool (e1 == kind) := HF.out 8 (hdep ⟨8, .data⟩ (by simp) rfl) hg
        clear hdep hLi
        go_wp2_with fail
        exact ⟨upd v 9 (.bool ((e2 == 0) && (e1 == kind))), by simp [upd, h3, h8, hg], Hb.out, Hhk0.out, Hhk1.out, (by simpa using Hhst.out), upd_vals HF.out (rfl)⟩
      · have hg2 : (e2 == 0) = false := by simpa using hg
        have h3 : v 3 = .bool (e2 == 0) := HF.out 3 (hdep ⟨3, .data⟩ (by simp) rfl)
        clear hdep hLi
        go_wp2_with fail
        exact ⟨upd v 9 (.bool ((e2 == 0) && (e1 == kind))), by simp [upd, h3, hg2], Hb.out, Hhk0.out, Hhk1.out, (by simpa using Hhst.out), upd_vals HF.out (rfl)⟩
    · -- operation 10: move
      simp at hoi; subst hoi
      have h9 : v 9 = .bool ((e2 == 0) && (e1 == kind)) := HF.out 9 (hdep ⟨9, .data⟩ (by simp) rfl)
      clear hdep hLi
      go_wp2_with fail
      exact ⟨upd v 10 (.bool ((e2 == 0) && (e1 == kind))), by simp [upd, h9], Hb.out, Hhk0.out, Hhk1.out, (by simpa using Hhst.out), upd_vals HF.out (rfl)⟩
    · -- operation 11: fieldAddr
      simp at hoi; subst hoi
      have hgv : v 10 = .bool ((e2 == 0) && (e1 == kind)) := HF.out 10 (hdep ⟨10, .guard⟩ (by simp) rfl)
      by_cases hg : ((e2 == 0) && (e1 == kind)) = true
      · rw [hg] at hgv
        clear hdep hLi
        go_wp2_with fail
        exact ⟨upd v 11 (.pointer (some ⟨w.heap.size, 0, none⟩)), by simp [upd, hgv], Hb.out, Hhk0.out, Hhk1.out, (by simpa using Hhst.out), upd_vals HF.out (fun _ => rfl)⟩
      · have hg2 : ((e2 == 0) && (e1 == kind)) = false := by simpa using hg
        rw [hg2] at hgv
        clear hdep hLi
        go_wp2_with fail
        exact ⟨upd v 11 undef, by simp [upd, hgv], Hb.out, Hhk0.out, Hhk1.out, (by simpa using Hhst.out), upd_vals HF.out (fun h => absurd h hg)⟩
    · -- operation 12: fieldAddr
      simp at hoi; subst hoi
      have hgv : v 10 = .bool ((e2 == 0) && (e1 == kind)) := HF.out 10 (hdep ⟨10, .guard⟩ (by simp) rfl)
      by_cases hg : ((e2 == 0) && (e1 == kind)) = true
      · rw [hg] at hgv
        have h11 : v 11 = .pointer (some ⟨w.heap.size, 0, none⟩) := HF.out 11 (hdep ⟨11, .data⟩ (by simp) rfl) hg
        clear hdep hLi
        go_wp2_with fail
        exact ⟨upd v 12 (.pointer (some ⟨w.heap.size, 0, none⟩)), by simp [upd, h11, hgv], Hb.out, Hhk0.out, Hhk1.out, (by simpa using Hhst.out), upd_vals HF.out (fun _ => rfl)⟩
      · have hg2 : ((e2 == 0) && (e1 == kind)) = false := by simpa using hg
        rw [hg2] at hgv
        clear hdep hLi
        go_wp2_with fail
        exact ⟨upd v 12 undef, by simp [upd, hgv], Hb.out, Hhk0.out, Hhk1.out, (by simpa using Hhst.out), upd_vals HF.out (fun h => absurd h hg)⟩
    · -- operation 13: fieldAddr
      simp at hoi; subst hoi
      have hgv : v 10 = .bool ((e2 == 0) && (e1 == kind)) := HF.out 10 (hdep ⟨10, .guard⟩ (by simp) rfl)
      by_cases hg : ((e2 == 0) && (e1 == kind)) = true
      · rw [hg] at hgv
        have h12 : v 12 = .pointer (some ⟨w.heap.size, 0, none⟩) := HF.out 12 (hdep ⟨12, .data⟩ (by simp) rfl) hg
        clear hdep hLi
        go_wp2_with fail
        exact ⟨upd v 13 (.pointer (some ⟨w.heap.size, 3, none⟩)), by simp [upd, h12, hgv], Hb.out, Hhk0.out, Hhk1.out, (by simpa using Hhst.out), upd_vals HF.out (fun _ => rfl)⟩
      · have hg2 : ((e2 == 0) && (e1 == kind)) = false := by simpa using hg
        rw [hg2] at hgv
        clear hdep hLi
        go_wp2_with fail
        exact ⟨upd v 13 undef, by simp [upd, hgv], Hb.out, Hhk0.out, Hhk1.out, (by simpa using Hhst.out), upd_vals HF.out (fun h => absurd h hg)⟩
    · -- operation 14: load
      simp at hoi; subst hoi
      have hgv : v 10 = .bool ((e2 == 0) && (e1 == kind)) := HF.out 10 (hdep ⟨10, .guard⟩ (by simp) rfl)
      by_cases hg : ((e2 == 0) && (e1 == kind)) = true
      · rw [hg] at hgv
        have h13 : v 13 = .pointer (some ⟨w.heap.size, 3, none⟩) := HF.out 13 (hdep ⟨13, .data⟩ (by simp) rfl) hg
        have hcx := Hhk0.out.cell
        clear hdep hLi
        go_wp2_with fail
        exact ⟨upd v 14 (.int .u16 k3), by simp [upd, h13, hgv], Hb.out, Hhk0.out, Hhk1.out, (by simpa using Hhst.out), upd_vals HF.out (fun _ => rfl)⟩
      · have hg2 : ((e2 == 0) && (e1 == kind)) = false := by simpa using hg
        rw [hg2] at hgv
        clear hdep hLi
        go_wp2_with fail
        exact ⟨upd v 14 undef, by simp [upd, hgv], Hb.out, Hhk0.out, Hhk1.out, (by simpa using Hhst.out), upd_vals HF.out (fun h => absurd h hg)⟩
    · -- operation 15: fieldAddr
      simp at hoi; subst hoi
      have hgv : v 10 = .bool ((e2 == 0) && (e1 == kind)) := HF.out 10 (hdep ⟨10, .guard⟩ (by simp) rfl)
      by_cases hg : ((e2 == 0) && (e1 == kind)) = true
      · rw [hg] at hgv
        clear hdep hLi
        go_wp2_with fail
        exact ⟨upd v 15 (.pointer (some ⟨w.heap.size, 0, none⟩)), by simp [upd, hgv], Hb.out, Hhk0.out, Hhk1.out, (by simpa using Hhst.out), upd_vals HF.out (fun _ => rfl)⟩
      · have hg2 : ((e2 == 0) && (e1 == kind)) = false := by simpa using hg
        rw [hg2] at hgv
        clear hdep hLi
        go_wp2_with fail
        exact ⟨upd v 15 undef, by simp [upd, hgv], Hb.out, Hhk0.out, Hhk1.out, (by simpa using Hhst.out), upd_vals HF.out (fun h => absurd h hg)⟩
    · -- operation 16: fieldAddr
      simp at hoi; subst hoi
      have hgv : v 10 = .bool ((e2 == 0) && (e1 == kind)) := HF.out 10 (hdep ⟨10, .guard⟩ (by simp) rfl)
      by_cases hg : ((e2 == 0) && (e1 == kind)) = true
      · rw [hg] at hgv
        have h15 : v 15 = .pointer (some ⟨w.heap.size, 0, none⟩) := HF.out 15 (hdep ⟨15, .data⟩ (by simp) rfl) hg
        clear hdep hLi
        go_wp2_with fail
        exact ⟨upd v 16 (.pointer (some ⟨w.heap.size, 0, none⟩)), by simp [upd, h15, hgv], Hb.out, Hhk0.out, Hhk1.out, (by simpa using Hhst.out), upd_vals HF.out (fun _ => rfl)⟩
      · have hg2 : ((e2 == 0) && (e1 == kind)) = false := by simpa using hg
        rw [hg2] at hgv
        clear hdep hLi
        go_wp2_with fail
        exact ⟨upd v 16 undef, by simp [upd, hgv], Hb.out, Hhk0.out, Hhk1.out, (by simpa using Hhst.out), upd_vals HF.out (fun h => absurd h hg)⟩
    · -- operation 17: fieldAddr
      simp at hoi; subst hoi
      have hgv : v 10 = .bool ((e2 == 0) && (e1 == kind)) := HF.out 10 (hdep ⟨10, .guard⟩ (by simp) rfl)
      by_cases hg : ((e2 == 0) && (e1 == kind)) = true
      · rw [hg] at hgv
        have h16 : v 16 = .pointer (some ⟨w.heap.size, 0, none⟩) := HF.out 16 (hdep ⟨16, .data⟩ (by simp) rfl) hg
        clear hdep hLi
        go_wp2_with fail
        exact ⟨upd v 17 (.pointer (some ⟨w.heap.size, 4, none⟩)), by simp [upd, h16, hgv], Hb.out, Hhk0.out, Hhk1.out, (by simpa using Hhst.out), upd_vals HF.out (fun _ => rfl)⟩
      · have hg2 : ((e2 == 0) && (e1 == kind)) = false := by simpa using hg
        rw [hg2] at hgv
        clear hdep hLi
        go_wp2_with fail
        exact ⟨upd v 17 undef, by simp [upd, hgv], Hb.out, Hhk0.out, Hhk1.out, (by simpa using Hhst.out), upd_vals HF.out (fun h => absurd h hg)⟩
    · -- operation 18: load
      simp at hoi; subst hoi
      have hgv : v 10 = .bool ((e2 == 0) && (e1 == kind)) := HF.out 10 (hdep ⟨10, .guard⟩ (by simp) rfl)
      by_cases hg : ((e2 == 0) && (e1 == kind)) = true
      · rw [hg] at hgv
        have h17 : v 17 = .pointer (some ⟨w.heap.size, 4, none⟩) := HF.out 17 (hdep ⟨17, .data⟩ (by simp) rfl) hg
        have hcx := Hhk0.out.cell
        clear hdep hLi
        go_wp2_with fail
        exact ⟨upd v 18 (.int .u16 k4), by simp [upd, h17, hgv], Hb.out, Hhk0.out, Hhk1.out, (by simpa using Hhst.out), upd_vals HF.out (fun _ => rfl)⟩
      · have hg2 : ((e2 == 0) && (e1 == kind)) = false := by simpa using hg
        rw [hg2] at hgv
        clear hdep hLi
        go_wp2_with fail
        exact ⟨upd v 18 undef, by simp [upd, hgv], Hb.out, Hhk0.out, Hhk1.out, (by simpa using Hhst.out), upd_vals HF.out (fun h => absurd h hg)⟩
    · -- operation 19: binOp
      simp at hoi; subst hoi
      have hgv : v 10 = .bool ((e2 == 0) && (e1 == kind)) := HF.out 10 (hdep ⟨10, .guard⟩ (by simp) rfl)
      by_cases hg : ((e2 == 0) && (e1 == kind)) = true
      · rw [hg] at hgv
        have h14 : v 14 = .int .u16 k3 := HF.out 14 (hdep ⟨14, .data⟩ (by simp) rfl) hg
        have h18 : v 18 = .int .u16 k4 := HF.out 18 (hdep ⟨18, .data⟩ (by simp) rfl) hg
        clear hdep hLi
        go_wp2_with fail
        exact ⟨upd v 19 (.bool (k3 == k4)), by simp [upd, h14, h18, hgv], Hb.out, Hhk0.out, Hhk1.out, (by simpa using Hhst.out), upd_vals HF.out (fun _ => rfl)⟩
      · have hg2 : ((e2 == 0) && (e1 == kind)) = false := by simpa using hg
        rw [hg2] at hgv
        clear hdep hLi
        go_wp2_with fail
        exact ⟨upd v 19 undef, by simp [upd, hgv], Hb.out, Hhk0.out, Hhk1.out, (by simpa using Hhst.out), upd_vals HF.out (fun h => absurd h hg)⟩
    · -- operation 20: pick
      simp at hoi; subst hoi
      by_cases hg : ((e2 == 0) && (e1 == kind)) = true
      ·
        have h10 : v 10 = .bool ((e2 == 0) && (e1 == kind)) := HF.out 10 (hdep ⟨10, .data⟩ (by simp) rfl)
        have h19 : v 19 = .bool (k3 == k4) := HF.out 19 (hdep ⟨19, .data⟩ (by simp) rfl) hg
        clear hdep hLi
        go_wp2_with fail
        exact ⟨upd v 20 (.bool (((e2 == 0) && (e1 == kind)) && (k3 == k4))), by simp [upd, h10, h19, hg], Hb.out, Hhk0.out, Hhk1.out, (by simpa using Hhst.out), upd_vals HF.out (rfl)⟩
      · have hg2 : ((e2 == 0) && (e1 == kind)) = false := by simpa using hg
        have h10 : v 10 = .bool ((e2 == 0) && (e1 == kind)) := HF.out 10 (hdep ⟨10, .data⟩ (by simp) rfl)
        clear hdep hLi
        go_wp2_with fail
        exact ⟨upd v 20 (.bool (((e2 == 0) && (e1 == kind)) && (k3 == k4))), by simp [upd, h10, hg2], Hb.out, Hhk0.out, Hhk1.out, (by simpa using Hhst.out), upd_vals HF.out (rfl)⟩
    · -- operation 21: move
      simp at hoi; subst hoi
      have h20 : v 20 = .bool (((e2 == 0) && (e1 == kind)) && (k3 == k4)) := HF.out 20 (hdep ⟨20, .data⟩ (by simp) rfl)
      clear hdep hLi
      go_wp2_with fail
      exact ⟨upd v 21 (.bool (((e2 == 0) && (e1 == kind)) && (k3 == k4))), by simp [upd, h20], Hb.out, Hhk0.out, Hhk1.out, (by simpa using Hhst.out), upd_vals HF.out (rfl)⟩
    · -- operation 22: fieldAddr
      simp at hoi; subst hoi
      have hgv : v 21 = .bool (((e2 == 0) && (e1 == kind)) && (k3 == k4)) := HF.out 21 (hdep ⟨21, .guard⟩ (by simp) rfl)
      by_cases hg : (((e2 == 0) && (e1 == kind)) && (k3 == k4)) = true
      · rw [hg] at hgv
        clear hdep hLi
        go_wp2_with fail
        exact ⟨upd v 22 (.pointer (some ⟨w.heap.size, 0, none⟩)), by simp [upd, hgv], Hb.out, Hhk0.out, Hhk1.out, (by simpa using Hhst.out), upd_vals HF.out (fun _ => rfl)⟩
      · have hg2 : (((e2 == 0) && (e1 == kind)) && (k3 == k4)) = false := by simpa using hg
        rw [hg2] at hgv
        clear hdep hLi
        go_wp2_with fail
        exact ⟨upd v 22 undef, by simp [upd, hgv], Hb.out, Hhk0.out, Hhk1.out, (by simpa using Hhst.out), upd_vals HF.out (fun h => absurd h hg)⟩
    · -- operation 23: fieldAddr
      simp at hoi; subst hoi
      have hgv : v 21 = .bool (((e2 == 0) && (e1 == kind)) && (k3 == k4)) := HF.out 21 (hdep ⟨21, .guard⟩ (by simp) rfl)
      by_cases hg : (((e2 == 0) && (e1 == kind)) && (k3 == k4)) = true
      · rw [hg] at hgv
        have h22 : v 22 = .pointer (some ⟨w.heap.size, 0, none⟩) := HF.out 22 (hdep ⟨22, .data⟩ (by simp) rfl) hg
        clear hdep hLi
        go_wp2_with fail
        exact ⟨upd v 23 (.pointer (some ⟨w.heap.size, 12, none⟩)), by simp [upd, h22, hgv], Hb.out, Hhk0.out, Hhk1.out, (by simpa using Hhst.out), upd_vals HF.out (fun _ => rfl)⟩
      · have hg2 : (((e2 == 0) && (e1 == kind)) && (k3 == k4)) = false := by simpa using hg
        rw [hg2] at hgv
        clear hdep hLi
        go_wp2_with fail
        exact ⟨upd v 23 undef, by simp [upd, hgv], Hb.out, Hhk0.out, Hhk1.out, (by simpa using Hhst.out), upd_vals HF.out (fun h => absurd h hg)⟩
    · -- operation 24: load
      simp at hoi; subst hoi
      have hgv : v 21 = .bool (((e2 == 0) && (e1 == kind)) && (k3 == k4)) := HF.out 21 (hdep ⟨21, .guard⟩ (by simp) rfl)
      by_cases hg : (((e2 == 0) && (e1 == kind)) && (k3 == k4)) = true
      · rw [hg] at hgv
        have h23 : v 23 = .pointer (some ⟨w.heap.size, 12, none⟩) := HF.out 23 (hdep ⟨23, .data⟩ (by simp) rfl) hg
        have hcx := Hhk0.out.cell
        clear hdep hLi
        go_wp2_with fail
        exact ⟨upd v 24 (.int .i64 length), by simp [upd, h23, hgv], Hb.out, Hhk0.out, Hhk1.out, (by simpa using Hhst.out), upd_vals HF.out (fun _ => rfl)⟩
      · have hg2 : (((e2 == 0) && (e1 == kind)) && (k3 == k4)) = false := by simpa using hg
        rw [hg2] at hgv
        clear hdep hLi
        go_wp2_with fail
        exact ⟨upd v 24 undef, by simp [upd, hgv], Hb.out, Hhk0.out, Hhk1.out, (by simpa using Hhst.out), upd_vals HF.out (fun h => absurd h hg)⟩
    · -- operation 25: call
      simp at hoi; subst hoi
      have hgv : v 21 = .bool (((e2 == 0) && (e1 == kind)) && (k3 == k4)) := HF.out 21 (hdep ⟨21, .guard⟩ (by simp) rfl)
      by_cases hg : (((e2 == 0) && (e1 == kind)) && (k3 == k4)) = true
      · rw [hg] at hgv
        have h24 : v 24 = .int .i64 length := HF.out 24 (hdep ⟨24, .data⟩ (by simp) rfl) hg
        clear hdep hLi
        go_wp2_with fail
        refine (between_any _ _ _ _).mono ?_
        rintro e w2 ⟨rfl, rfl⟩
        go_wp2_with fail
        exact ⟨upd v 25 (.bool (betweenB length 0 65507)), by simp [upd, h24, hgv], Hb.out, Hhk0.out, Hhk1.out, (by simpa using Hhst.out), upd_vals HF.out (fun _ => rfl)⟩
      · have hg2 : (((e2 == 0) && (e1 == kind)) && (k3 == k4)) = false := by simpa using hg
        rw [hg2] at hgv
        clear hdep hLi
        go_wp2_with fail
        exact ⟨upd v 25 undef, by simp [upd, hgv], Hb.out, Hhk0.out, Hhk1.out, (by simpa using Hhst.out), upd_vals HF.out (fun h => absurd h hg)⟩
    · -- operation 26: pick
      simp at hoi; subst hoi
      by_cases hg : (((e2 == 0) && (e1 == kind)) && (k3 == k4)) = true
      ·
        have h21 : v 21 = .bool (((e2 == 0) && (e1 == kind)) && (k3 == k4)) := HF.out 21 (hdep ⟨21, .data⟩ (by simp) rfl)
        have h25 : v 25 = .bool (betweenB length 0 65507) := HF.out 25 (hdep ⟨25, .data⟩ (by simp) rfl) hg
        clear hdep hLi
        go_wp2_with fail
        exact ⟨upd v 26 (.bool ((((e2 == 0) && (e1 == kind)) && (k3 == k4)) && (betweenB length 0 65507))), by simp [upd, h21, h25, hg], Hb.out, Hhk0.out, Hhk1.out, (by simpa using Hhst.out), upd_vals HF.out (rfl)⟩
      · have hg2 : (((e2 == 0) && (e1 == kind)) && (k3 == k4)) = false := by simpa using hg
        have h21 : v 21 = .bool (((e2 == 0) && (e1 == kind)) && (k3 == k4)) := HF.out 21 (hdep ⟨21, .data⟩ (by simp) rfl)
        clear hdep hLi
        go_wp2_with fail
        exact ⟨upd v 26 (.bool ((((e2 == 0) && (e1 == kind)) && (k3 == k4)) && (betweenB length 0 65507))), by simp [upd, h21, hg2], Hb.out, Hhk0.out, Hhk1.out, (by simpa using Hhst.out), upd_vals HF.out (rfl)⟩
    · -- operation 27: store
      simp at hoi; subst hoi
      have h0 : v 0 = .agg #[.int .u8 k0, .int .u32 k1, .int .u32 k2, .int .u16 k3, .int .u16 k4, .int .u8 kind, .int .u8 0, .int .u8 type, .int .u8 code, .int .u32 0, .int .u32 0, .int .i64 0, .int .i64 length, .int .u8 0, .int .u32 0, .int .u32 0, .int .u16 0, .int .u16 0, .int .u8 0] := HF.out 0 (hdep ⟨0, .data⟩ (by simp) rfl)
      have hst := Hhst.out
      rw [hLi, stSel_no] at hst
      clear hdep hLi
      refine wpList_store_row rfl 72 (.tmp 2) (.tmp 34) rfl (w.heap.size + 1) #[.int .u8 k0, .int .u32 k1, .int .u32 k2, .int .u16 k3, .int .u16 k4, .int .u8 kind, .int .u8 0, .int .u8 type, .int .u8 code, .int .u32 0, .int .u32 0, .int .i64 0, .int .i64 length, .int .u8 0, .int .u32 0, .int .u32 0, .int .u16 0, .int .u16 0, .int .u8 0] rfl (by simp [Act.eval, h0]) _ _ hst (by kernel_rfl) (by simp) (by simp [Value.oneCell']) ?_
      go_wp2_with fail
      exact ⟨upd v 27 undef, by simp [Act.put, upd, h0], below_setRow Hb.out (by omega) _, (setRow_other _ _ _ _ (by omega)).trans Hhk0.out, (setRow_other _ _ _ _ (by omega)).trans Hhk1.out, setRow_heap _ _ _ #[.int .u8 k0, .int .u32 k1, .int .u32 k2, .int .u16 k3, .int .u16 k4, .int .u8 kind, .int .u8 0, .int .u8 type, .int .u8 code, .int .u32 0, .int .u32 0, .int .i64 0, .int .i64 length, .int .u8 0, .int .u32 0, .int .u32 0, .int .u16 0, .int .u16 0, .int .u8 0] _ _ hst, upd_vals HF.out trivial⟩
    · -- operation 28: assign
      simp at hoi; subst hoi
      have h26 : v 26 = .bool ((((e2 == 0) && (e1 == kind)) && (k3 == k4)) && (betweenB length 0 65507)) := HF.out 26 (hdep ⟨26, .data⟩ (by simp) rfl)
      clear hdep hLi
      go_wp2_with fail
      exact ⟨upd v 28 (.bool ((((e2 == 0) && (e1 == kind)) && (k3 == k4)) && (betweenB length 0 65507))), by simp [upd, h26], Hb.out, Hhk0.out, Hhk1.out, (by simpa using Hhst.out), upd_vals HF.out (rfl)⟩
  case h0 => exact ⟨fun j => if j = 28 then .bool false else undef, rfl, (Below.refl _ _).drew, bl0.drew, bl2.drew, bl1.drew, fun j hj => by cases hj⟩
  case hend =>
    intro L a W hL ⟨v, ha, hb, hk0, hk1, hst, hF⟩
    have hl : v 28 = .bool ((((e2 == 0) && (e1 == kind)) && (k3 == k4)) && (betweenB length 0 65507)) := hF 28 (hL 28 (by decide))
    rw [hL 27 (by decide), stSel_yes] at hst
    subst ha
    clear hF hL hk0 hk1
    go_wp2_with fail
    refine bodyPost_ret (v := .tuple #[.agg #[.int .u8 k0, .int .u32 k1, .int .u32 k2, .int .u16 k3, .int .u16 k4, .int .u8 kind, .int .u8 0, .int .u8 type, .int .u8 code, .int .u32 0, .int .u32 0, .int .i64 0, .int .i64 length, .int .u8 0, .int .u32 0, .int .u32 0, .int .u16 0, .int .u16 0, .int .u8 0], .bool ((((e2 == 0) && (e1 == kind)) && (k3 == k4)) && (betweenB length 0 65507))]) ((results_cell_tmp Tryz.results46 _ _ _ _ _ _ _ rfl hst Tryz.underlying72 rfl (by kernel_rfl)).trans ?_) rfl ⟨rfl, hb0.trans hb⟩
    simp [hl]

end Go.Proofs.YtebeekjcepjcnaaGreatDoor
