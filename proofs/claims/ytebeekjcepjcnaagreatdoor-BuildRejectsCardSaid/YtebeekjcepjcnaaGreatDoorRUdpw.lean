/-
  udp.Write, at a header that is right.
  What tcp.Write, udp.Write and icmp.Write write is read as it was; so is what an error quotes (plain).
  What pkt reads depends on the first 136 bytes and the length alone (plain).
-/
import Derived.Test.YtebeekjcepjcnaaGreatDoorRTcpw
namespace Go.Proofs.YtebeekjcepjcnaaGreatDoor
open Go.RowKit Go.Shelf

def udpS (sp dp n : Int) : Nat → List Int
  | 0 => [0, 0, 0, 0, 0, 0, 0, 0]
  | 1 => [sp / 256, sp % 256, 0, 0, 0, 0, 0, 0]
  | 2 => [sp / 256, sp % 256, dp / 256, dp % 256, 0, 0, 0, 0]
  | _ => [sp / 256, sp % 256, dp / 256, dp % 256, n / 256, n % 256, 0, 0]
theorem udpS_len (sp dp n : Int) (k : Nat) : (udpS sp dp n k).length = 8 := by unfold udpS; split <;> rfl
def udp0 (sp dp : Int) (data : List Int) : List Int := udpS sp dp (8 + (data.length : Int)) 4 ++ data
def udpSum (src dst : Int) (T : List Int) : Int := neverB (overB (pseudoL src dst 17 T.length) T)
def udpL (sp dp : Int) (checked : Bool) (src dst : Int) (data : List Int) : List Int :=
  if checked then ((udp0 sp dp data).set 6 (udpSum src dst (udp0 sp dp data) / 256)).set 7 (udpSum src dst (udp0 sp dp data) % 256) else udp0 sp dp data
theorem udp0_len (sp dp : Int) (data : List Int) : (udp0 sp dp data).length = 8 + data.length := by simp [udp0, udpS_len]
theorem udp0_byt {sp dp : Int} {data : List Int} (p0 : 0 ≤ sp) (p1 : sp < 65536) (q0 : 0 ≤ dp) (q1 : dp < 65536) (hl : data.length ≤ 65507) (h : Byt data) : Byt (udp0 sp dp data) := by
  unfold udp0
  refine Byt.append ?_ h
  show Byt [sp / 256, sp % 256, dp / 256, dp % 256, _, _, 0, 0]
  exact .cons (by omega) (by omega) (.cons (by omega) (by omega) (.cons (by omega) (by omega) (.cons (by omega) (by omega) (.cons (by omega) (by omega) (.cons (by omega) (by omega) (.cons (by omega) (by omega) (.cons (by omega) (by omega) .nil)))))))

set_option maxRecDepth 100000 in
set_option maxHeartbeats 2000000 in
theorem udpWrite_any (sp dp : Int) (chk : Bool) (src dst : Int) (D : Option Addr) (dcap dl : Nat) (data : List Int) (w : World)
    (p0 : 0 ≤ sp) (p1 : sp < 65536) (q0 : 0 < dp) (q1 : dp < 65536) (hdl : data.length = dl) (hd : dl ≤ 65507)
    (x0 : 0 ≤ src) (x1 : src < 4294967296) (y0 : 0 ≤ dst) (y1 : dst < 4294967296) (hdb : Byt data) (hrD : Rd w w.heap.size D .u8 data) :
    Calls Tryz.prog 40 #[.agg #[.int .u16 sp, .int .u16 dp, .bool chk], .int .u32 src, .int .u32 dst, .slice D dl dcap] w fun e w' => ∃ v, e = .returned (.tuple #[v, .int .i64 0]) ∧ Own w' w.heap.size v (udpL sp dp chk src dst data) ∧ Below w.heap.size w w' := by
  have b1 : (dp == 0) = false := by simp; omega
  have b2 : decide (65515 < 8 + (dl : Int)) = false := by simp; omega
  have hw1 := IntKind.wrap_u8 sp
  have hw2 := IntKind.wrap_u8 dp
  have hw3 := IntKind.wrap_u8 (8 + (dl : Int))
  have i0 : ∀ w, (Instr.index 157 (.agg #[.int .u16 sp, .int .u16 dp, .int .u16 (8 + (dl : Int)), .int .u16 0]) (.int .i64 0)).run Tryz.prog w = .ok (.int .u16 sp) w := fun _ => by kernel_rfl
  have i1 : ∀ w, (Instr.index 157 (.agg #[.int .u16 sp, .int .u16 dp, .int .u16 (8 + (dl : Int)), .int .u16 0]) (.int .i64 1)).run Tryz.prog w = .ok (.int .u16 dp) w := fun _ => by kernel_rfl
  have i2 : ∀ w, (Instr.index 157 (.agg #[.int .u16 sp, .int .u16 dp, .int .u16 (8 + (dl : Int)), .int .u16 0]) (.int .i64 2)).run Tryz.prog w = .ok (.int .u16 (8 + (dl : Int))) w := fun _ => by kernel_rfl
  have i3 : ∀ w, (Instr.index 157 (.agg #[.int .u16 sp, .int .u16 dp, .int .u16 (8 + (dl : Int)), .int .u16 0]) (.int .i64 3)).run Tryz.prog w = .ok (.int .u16 0) w := fun _ => by kernel_rfl
  have Hdl := Lib.hid hdl
  have H0 := Lib.hid (show udpS sp dp (8 + (dl : Int)) 4 ++ data = udp0 sp dp data by unfold udp0; rw [hdl])
  clear hdl
  go_enter Tryz.func40, Tryz.ntmps40
  go_wp2_with (at_make; refine make_own rfl _ _ rfl w.heap.size _ _ _ _ 8 (8 + dl) rfl rfl (by simp) (by simp) (by omega) (by omega) (by simp) ?_; intro w2 hown2 hbw2 hlt2; have bx := (Blk.new w 115 #[.int .u16 sp, .int .u16 dp, .bool chk]).below hbw2 (by simp); have hcx := bx.cell)
  have hbw : Below w.heap.size w w2 := ((Below.refl _ _).alloc (Nat.le_refl _) _).trans (hbw2.mono (by simp))
  simp only [World.size_alloc] at hown2
  have Hown2 := Lib.hid hown2
  have Hbx := Lib.hid bx
  have Hbw := Lib.hid hbw
  clear hown2 bx hbw hbw2 hcx
  go_loopw [12, 13, 36] (fun _ _ i wr => ∃ k : Nat, k ≤ 4 ∧ i = .int .i64 k ∧ Own wr w.heap.size (.slice (some ⟨w.heap.size + 1, 0, none⟩) 8 (8 + dl)) (udpS sp dp (8 + (dl : Int)) k) ∧ Below (w.heap.size + 1) w2 wr) (fun _ _ i _ => 4 - (intOf i).toNat)
  case atStart => exact ⟨0, by omega, rfl, Hown2.out, Below.refl _ _⟩
  case round =>
    obtain ⟨k, hk, rfl, hown, hbk⟩ := hrel
    rcases (show k = 0 ∨ k = 1 ∨ k = 2 ∨ k = 3 ∨ k = 4 by omega) with rfl | rfl | rfl | rfl | rfl
    · have c0 : wr.cell? ⟨w.heap.size + 1, 0, none⟩ = some (.int .u8 0) := hown.cell 0 (by rw [udpS_len]; omega)
      have c1 : wr.cell? ⟨w.heap.size + 1, 1, none⟩ = some (.int .u8 0) := hown.cell 1 (by rw [udpS_len]; omega)
      have fz := hown.free
      have Ho := Lib.hid ((hown.set 0 (sp / 256)).set 1 (sp % 256))
      clear hown
      go_wp2_with fail
      go_roundw
      case rel => exact ⟨1, by omega, rfl, Ho.out, (hbk.setCell (p := ⟨w.heap.size + 1, 0, none⟩) (Nat.le_refl _) _).setCell (p := ⟨w.heap.size + 1, 1, none⟩) (Nat.le_refl _) _⟩
      case measure => simp [intOf]
    · have c0 : wr.cell? ⟨w.heap.size + 1, 2, none⟩ = some (.int .u8 0) := hown.cell 2 (by rw [udpS_len]; omega)
      have c1 : wr.cell? ⟨w.heap.size + 1, 3, none⟩ = some (.int .u8 0) := hown.cell 3 (by rw [udpS_len]; omega)
      have fz := hown.free
      have Ho := Lib.hid ((hown.set 2 (dp / 256)).set 3 (dp % 256))
      clear hown
      go_wp2_with fail
      go_roundw
      case rel => exact ⟨2, by omega, rfl, Ho.out, (hbk.setCell (p := ⟨w.heap.size + 1, 2, none⟩) (Nat.le_refl _) _).setCell (p := ⟨w.heap.size + 1, 3, none⟩) (Nat.le_refl _) _⟩
      case measure => simp [intOf]
    · have c0 : wr.cell? ⟨w.heap.size + 1, 4, none⟩ = some (.int .u8 0) := hown.cell 4 (by rw [udpS_len]; omega)
      have c1 : wr.cell? ⟨w.heap.size + 1, 5, none⟩ = some (.int .u8 0) := hown.cell 5 (by rw [udpS_len]; omega)
      have fz := hown.free
      have Ho := Lib.hid ((hown.set 4 ((8 + (dl : Int)) / 256)).set 5 ((8 + (dl : Int)) % 256))
      clear hown
      go_wp2_with fail
      go_roundw
      case rel => exact ⟨3, by omega, rfl, Ho.out, (hbk.setCell (p := ⟨w.heap.size + 1, 4, none⟩) (Nat.le_refl _) _).setCell (p := ⟨w.heap.size + 1, 5, none⟩) (Nat.le_refl _) _⟩
      case measure => simp [intOf]
    · have c0 : wr.cell? ⟨w.heap.size + 1, 6, none⟩ = some (.int .u8 0) := hown.cell 6 (by rw [udpS_len]; omega)
      have c1 : wr.cell? ⟨w.heap.size + 1, 7, none⟩ = some (.int .u8 0) := hown.cell 7 (by rw [udpS_len]; omega)
      have fz := hown.free
      have Ho := Lib.hid ((hown.set 6 0).set 7 0)
      clear hown
      go_wp2_with fail
      go_roundw
      case rel => exact ⟨4, by omega, rfl, Ho.out, (hbk.setCell (p := ⟨w.heap.size + 1, 6, none⟩) (Nat.le_refl _) _).setCell (p := ⟨w.heap.size + 1, 7, none⟩) (Nat.le_refl _) _⟩
      case measure => simp [intOf]
    · have bxr := Hbx.out.below hbk (by omega)
      have hcx := bxr.cell
      have hbr : Below w.heap.size w wr := Hbw.out.trans (hbk.mono (by omega))
      have hrDr : Rd wr w.heap.size D .u8 data := hrD.below hbr (Nat.le_refl _)
      have Hdl' := Lib.hid Hdl.out.symm
      have hszr := hbr.size
      clear hrD hbk
      have hTb := udp0_byt p0 p1 (by omega) q1 (by rw [Hdl.out]; omega) hdb
      have HTl := Lib.hid (show (udp0 sp dp data).length = 8 + dl by rw [udp0_len, Hdl.out])
      have HTf := Lib.hid (show udpL sp dp true src dst data = ((udp0 sp dp data).set 6 (neverB (overB (pseudoL src dst 17 (8 + (dl : Int))) (udp0 sp dp data)) / 256)).set 7 (neverB (overB (pseudoL src dst 17 (8 + (dl : Int))) (udp0 sp dp data)) % 256) by
        unfold udpL udpSum; rw [if_pos rfl, HTl.out, show (((8 + dl : Nat) : Int)) = 8 + (dl : Int) by omega])
      have HTf0 := Lib.hid (show udpL sp dp false src dst data = udp0 sp dp data from rfl)
      generalize udp0 sp dp data = T at *
      cases chk
      · go_wp2_with (at_builtin; refine app_own rfl (.tmp 55) (.tmp 56) rfl w.heap.size _ (udpS sp dp (8 + (dl : Int)) 4) rfl hown _ D _ dcap data rfl Hdl'.out hrDr (by rw [udpS_len, Hdl.out]; omega) hszr ?_; intro v3 w3 o3 l3 g3 _; rw [H0.out] at o3; have bx3 := bxr.grown g3 (by simp [Value.ownBlock, Act.eval]); have hcx3 := bx3.cell; clear hcx)
        go_ret2
        exact ⟨_, rfl, by rw [HTf0.out]; exact o3, hbr.trans l3⟩
      · go_wp2_with (at_builtin; refine app_own rfl (.tmp 55) (.tmp 56) rfl w.heap.size _ (udpS sp dp (8 + (dl : Int)) 4) rfl hown _ D _ dcap data rfl Hdl'.out hrDr (by rw [udpS_len, Hdl.out]; omega) hszr ?_; intro v3 w3 o3 l3 g3 _; rw [H0.out] at o3; have bx3 := bxr.grown g3 (by simp [Value.ownBlock, Act.eval]); have hcx3 := bx3.cell; clear hcx)
        have hps : 0 ≤ pseudoL src dst 17 (8 + (dl : Int)) ∧ pseudoL src dst 17 (8 + (dl : Int)) ≤ 65535 := joinL_bd (l := [src / 65536, src % 65536, dst / 65536, dst % 65536, 17, 8 + (dl : Int)]) (by intro y hy; simp at hy; rcases hy with rfl | rfl | rfl | rfl | rfl | rfl <;> omega)
        refine (pseudo_any src dst 17 (8 + (dl : Int)) w3 x0 x1 y0 y1 (by omega) (by omega) (by omega) (by omega)).mono ?_
        rintro e w4 ⟨rfl, l4⟩
        generalize pseudoL src dst 17 (8 + (dl : Int)) = ps at *
        have o4 := o3.below l4 (Nat.le_refl _)
        obtain ⟨g, c, hv, hg0, hg1, _, _⟩ := o4.form (by rw [HTl.out]; omega)
        rw [HTl.out] at hv
        subst hv
        have hov := overB_bd hTb hps.1 (by omega)
        have hov2 := over_any ps (some ⟨g, 0, none⟩) c T w4 hps.1 (by omega) hTb (by rw [HTl.out]; omega) o4.rd
        rw [HTl.out] at hov2
        have Ho3 := Lib.hid o3
        have Hl3 := Lib.hid l3
        clear o3 l3 g3 bx3 hcx3 bxr
        go_wp2_with fail
        refine hov2.mono ?_
        rintro e w5 ⟨rfl, l5⟩
        go_wp2_with fail
        refine (never_any _ _).mono ?_
        rintro e w6 ⟨rfl, rfl⟩
        have hn : 0 ≤ neverB (overB ps T) ∧ neverB (overB ps T) ≤ 65535 := by unfold neverB; split <;> omega
        generalize neverB (overB ps T) = nv at *
        have o5 := o4.below l5 (Nat.le_refl _)
        have c6 : w5.cell? ⟨g, 6, none⟩ = some (.int .u8 (T.getD 6 0)) := o5.cell 6 (by rw [HTl.out]; omega)
        have c7 : w5.cell? ⟨g, 7, none⟩ = some (.int .u8 (T.getD 7 0)) := o5.cell 7 (by rw [HTl.out]; omega)
        have fz := o5.free
        have Ho := Lib.hid ((o5.set 6 (nv / 256)).set 7 (nv % 256))
        have hwn := IntKind.wrap_u8 nv
        have hb3 := hbr.trans Hl3.out
        have hb5 : Below w.heap.size w w5 := (hb3.trans (l4.mono hb3.size)).trans (l5.mono (by have := hb3.size; have := l4.size; omega))
        generalize T.getD 6 0 = z6 at *
        generalize T.getD 7 0 = z7 at *
        clear o4 o5 l4 l5 hov2 hb3
        go_wp2_with fail
        go_ret2
        exact ⟨_, rfl, by rw [HTf.out]; exact Ho.out, (hb5.setCell (p := ⟨g, 6, none⟩) hg0 _).setCell (p := ⟨g, 7, none⟩) hg0 _⟩

end Go.Proofs.YtebeekjcepjcnaaGreatDoor
namespace Go.Proofs.YtebeekjcepjcnaaGreatDoor
open Go.RowKit
theorem tcpL_eq (sp dp seqn ackn : Int) (fl : Nat) (win urg : Int) (opts : List Int) (src dst : Int) (data : List Int) : ∃ c : Int,
    tcpL sp dp seqn ackn fl win urg opts src dst data = [sp / 256, sp % 256, dp / 256, dp % 256, seqn / 65536 / 256, seqn / 65536 % 256, seqn % 65536 / 256, seqn % 65536 % 256, ackn / 65536 / 256, ackn / 65536 % 256, ackn % 65536 / 256, ackn % 65536 % 256,
      (20 + (opts.length : Int)) / 4 * 16, (fl : Int), win / 256, win % 256, c / 256, c % 256, urg / 256, urg % 256] ++ (opts ++ data) := by
  refine ⟨overB (pseudoL src dst 6 (tcpL0 sp dp seqn ackn fl win urg opts data).length) (tcpL0 sp dp seqn ackn fl win urg opts data), ?_⟩
  unfold tcpL tcpSumL
  generalize overB (pseudoL src dst 6 (tcpL0 sp dp seqn ackn fl win urg opts data).length) (tcpL0 sp dp seqn ackn fl win urg opts data) = c
  unfold tcpL0
  rw [List.append_assoc]
  rfl
theorem tcp_back (sp dp seqn ackn win urg : Int) (fl : Nat) (opts : List Int) (src dst : Int) (data : List Int)
    (p0 : 0 < sp) (p1 : sp < 65536) (q0 : 0 < dp) (q1 : dp < 65536) (_s0 : 0 ≤ seqn) (_s1 : seqn < 4294967296) (_a0 : 0 ≤ ackn) (_a1 : ackn < 4294967296) (_hf : fl < 256) (hsane : saneB fl = true)
    (_w0 : 0 ≤ win) (_w1 : win < 65536) (ho : opts.length ≤ 40) (ho4 : opts.length % 4 = 0) :
    tcpE (tcpL sp dp seqn ackn fl win urg opts src dst data) = 0 ∧ ∀ f, tcpF f (tcpL sp dp seqn ackn fl win urg opts src dst data) = { f with key := { f.key with sp := sp, dp := dp }, kind := 1, flags := (fl : Int) % 64, seqn := seqn, ackn := ackn, window := win, length := data.length } := by
  obtain ⟨c, h⟩ := tcpL_eq sp dp seqn ackn fl win urg opts src dst data
  rw [h]
  generalize hb : ([sp / 256, sp % 256, dp / 256, dp % 256, seqn / 65536 / 256, seqn / 65536 % 256, seqn % 65536 / 256, seqn % 65536 % 256, ackn / 65536 / 256, ackn / 65536 % 256, ackn % 65536 / 256, ackn % 65536 % 256,
      (20 + (opts.length : Int)) / 4 * 16, (fl : Int), win / 256, win % 256, c / 256, c % 256, urg / 256, urg % 256] ++ (opts ++ data) : List Int) = b
  have hl : b.length = 20 + (opts.length + data.length) := by rw [← hb]; simp; omega
  have e0 : w16At b 0 = sp := by rw [← hb]; show 256 * (sp / 256) + sp % 256 = sp; omega
  have e2 : w16At b 2 = dp := by rw [← hb]; show 256 * (dp / 256) + dp % 256 = dp; omega
  have e12 : b.getD 12 0 = (20 + (opts.length : Int)) / 4 * 16 := by rw [← hb]; rfl
  have e13 : b.getD 13 0 = fl := by rw [← hb]; rfl
  have e14 : w16At b 14 = win := by rw [← hb]; show 256 * (win / 256) + win % 256 = win; omega
  have e4 : l32At b 4 = seqn := by rw [← hb]; show 65536 * (256 * (seqn / 65536 / 256) + seqn / 65536 % 256) + (256 * (seqn % 65536 / 256) + seqn % 65536 % 256) = seqn; omega
  have e8 : l32At b 8 = ackn := by rw [← hb]; show 65536 * (256 * (ackn / 65536 / 256) + ackn / 65536 % 256) + (256 * (ackn % 65536 / 256) + ackn % 65536 % 256) = ackn; omega
  have es : tcpSize b = 20 + opts.length := by unfold tcpSize; rw [e12]; omega
  constructor
  · unfold tcpE
    rw [es, e12, e13, e0, e2, hl, Int.toNat_natCast, hsane]
    rw [if_neg (by omega), if_neg (by omega), if_neg (by simp), if_neg (by omega)]
  · intro f
    unfold tcpF
    rw [es, e0, e2, e13, e4, e8, e14, hl]
    simp
    omega
theorem udpL_eq (sp dp : Int) (chk : Bool) (src dst : Int) (data : List Int) : ∃ x y : Int, udpL sp dp chk src dst data = [sp / 256, sp % 256, dp / 256, dp % 256, (8 + (data.length : Int)) / 256, (8 + (data.length : Int)) % 256, x, y] ++ data := by
  unfold udpL
  split
  · exact ⟨_, _, rfl⟩
  · exact ⟨_, _, rfl⟩
theorem udp_back (sp dp x y : Int) (data : List Int) (p0 : 0 < sp) (_p1 : sp < 65536) (q0 : 0 < dp) (_q1 : dp < 65536) (hl : data.length ≤ 65507) :
    udpE2 ([sp / 256, sp % 256, dp / 256, dp % 256, (8 + (data.length : Int)) / 256, (8 + (data.length : Int)) % 256, x, y] ++ data) = 0
    ∧ ∀ f, udpF f ([sp / 256, sp % 256, dp / 256, dp % 256, (8 + (data.length : Int)) / 256, (8 + (data.length : Int)) % 256, x, y] ++ data) = { f with key := { f.key with sp := sp, dp := dp }, kind := 2, length := data.length } := by
  generalize hb : ([sp / 256, sp % 256, dp / 256, dp % 256, (8 + (data.length : Int)) / 256, (8 + (data.length : Int)) % 256, x, y] ++ data : List Int) = b
  have hlb : b.length = 8 + data.length := by rw [← hb]; simp; omega
  have e0 : w16At b 0 = sp := by rw [← hb]; show 256 * (sp / 256) + sp % 256 = sp; omega
  have e2 : w16At b 2 = dp := by rw [← hb]; show 256 * (dp / 256) + dp % 256 = dp; omega
  have e4 : w16At b 4 = 8 + data.length := by rw [← hb]; show 256 * ((8 + (data.length : Int)) / 256) + (8 + (data.length : Int)) % 256 = _; omega
  constructor
  · have hE : udpE b = 0 := by
      unfold udpE
      rw [e2, e4, hlb, if_neg (by omega), if_neg (by omega), if_neg (by omega)]
    unfold udpE2
    rw [hE, e0, if_neg (by omega), if_neg (by omega)]
  · intro f
    unfold udpF
    rw [e0, e2, e4]
    simp
    omega
theorem icmpL_eq (t c i s : Int) (data : List Int) : ∃ x y : Int, icmpL t c i s data = [t, c, x, y, i / 256, i % 256, s / 256, s % 256] ++ data := ⟨_, _, rfl⟩
theorem icmp_back (t c : Nat) (x y i s : Int) (data : List Int) (hk : kind2 t c = 0) (b : List Int) (hb : b = [(t : Int), (c : Int), x, y, i / 256, i % 256, s / 256, s % 256] ++ data) :
    icmpE b = 0 ∧ icmpK b = kind1 t c ∧ b.drop 8 = data ∧ w16At b 4 = i ∧ b.getD 0 0 = t ∧ b.getD 1 0 = c ∧ b.length = 8 + data.length := by
  have hlb : b.length = 8 + data.length := by rw [hb]; simp; omega
  have e0 : b.getD 0 0 = t := by rw [hb]; rfl
  have e1 : b.getD 1 0 = c := by rw [hb]; rfl
  have e4 : w16At b 4 = i := by rw [hb]; show 256 * (i / 256) + i % 256 = i; omega
  refine ⟨?_, ?_, by rw [hb]; rfl, e4, e0, e1, hlb⟩
  · unfold icmpE
    rw [e0, e1, hlb, Int.toNat_natCast, Int.toNat_natCast, hk, if_neg (by omega)]
  · unfold icmpK
    rw [e0, e1, Int.toNat_natCast, Int.toNat_natCast]
theorem kind1_pos {t c : Nat} (h : kind2 t c = 0) : 1 ≤ kind1 t c ∧ kind1 t c ≤ 5 := by
  have hb := kindN_bd t
  unfold kind2 at h
  unfold kind1
  split at h
  · omega
  · split at h
    · omega
    · rename_i h1 h2
      rw [if_neg h1, if_neg h2]
      omega
theorem kind1_three (t c : Nat) (h : kind1 t c = 1 ∨ kind1 t c = 2) : False := by
  have : ∀ t : Nat, kindN t ≠ 1 ∧ kindN t ≠ 2 := by
    intro t
    by_cases ht : t < 19
    · have hall : ∀ t, t < 19 → kindN t ≠ 1 ∧ kindN t ≠ 2 := by decide
      exact hall t ht
    · rw [kindN_big (by omega)]; omega
  have h2 := this t
  unfold kind1 at h
  split at h
  · omega
  · split at h <;> omega
theorem hdr_proto (b : List Int) : (ipHdr b).proto = b.getD 9 0 := rfl
theorem hdr_src (b : List Int) : (ipHdr b).src = l32At b 12 := rfl
theorem hdr_dst (b : List Int) : (ipHdr b).dst = l32At b 16 := rfl
/-- The packet that an error quotes: what its first 8 bytes of data tell. -/
theorem quo_back (h : IpH) (n : Nat) (rest d : List Int) (ho : h.Ok) (hR : h.Right n) (hoff : h.off = 0) (hn : 8 ≤ n) (h8 : 8 ≤ rest.length) (hpre : ∀ i, i < 8 → rest.getD i 0 = d.getD i 0)
    (hp : h.proto = 6 ∨ h.proto = 17 ∨ h.proto = 1) (hE : dataE h.proto d = 0) (hk : (dataF h.proto (baseF h) d).kind ≠ 5) :
    quoE (headL h n ++ rest) = 0 ∧ quoKey (headL h n ++ rest) = (dataF h.proto (baseF h) d).key ∧ quoKind (headL h n ++ rest) = (dataF h.proto (baseF h) d).kind := by
  have k := ip_back h n rest ho hR
  have hlen : (headL h n ++ rest).length = 20 + h.opts.length + rest.length := by rw [List.length_append, headL_len]
  have hdrop : (headL h n ++ rest).drop (20 + h.opts.length) = rest := List.drop_left' (headL_len h n)
  have htot : w16At (headL h n ++ rest) 2 = 20 + h.opts.length + n := by
    have h1 := k.total
    unfold ipTotal at h1
    omega
  have hw := k.word
  have hw6 : w16At (headL h n ++ rest) 6 = h.word := by
    have h1 := word_bd h hR.off0 hR.off1 hR.off8
    have e : w16At (headL h n ++ rest) 6 = 256 * (h.word / 256 % 256) + h.word % 256 := by
      rw [headL_eq]
      rfl
    rw [e]
    omega
  have hproto : (headL h n ++ rest).getD 9 0 = h.proto := (hdr_proto _).symm.trans (congrArg IpH.proto k.hdr)
  have hsrc : l32At (headL h n ++ rest) 12 = h.src := (hdr_src _).symm.trans (congrArg IpH.src k.hdr)
  have hdst : l32At (headL h n ++ rest) 16 = h.dst := (hdr_dst _).symm.trans (congrArg IpH.dst k.hdr)
  have hsz := k.size
  have hver := k.ver
  have hsum := k.sum
  generalize headL h n ++ rest = b at *
  have hN : quoN b = 4 := firstB_all fun j hj => by
    rcases (show j = 0 ∨ j = 1 ∨ j = 2 ∨ j = 3 by omega) with rfl | rfl | rfl | rfl
    · have e1 : decide (b.length < 20) = false := decide_eq_false (by omega)
      show (decide (b.length < 20) || b.getD 0 0 / 16 != 4) = false
      rw [hver, e1]; rfl
    · simp [quoT, hsz]; omega
    · simp [quoT, hsz, hsum]; omega
    · have : h.word % 8192 = 0 := by
        have h1 := word_bd h hR.off0 hR.off1 hR.off8
        omega
      simp [quoT, hw6, this]; omega
  have r0 : w16At rest 0 = w16At d 0 := by unfold w16At; rw [hpre 0 (by omega), hpre 1 (by omega)]
  have r2 : w16At rest 2 = w16At d 2 := by unfold w16At; rw [hpre 2 (by omega), hpre 3 (by omega)]
  have r4 : w16At rest 4 = w16At d 4 := by unfold w16At; rw [hpre 4 (by omega), hpre 5 (by omega)]
  have main : quoKey b = (dataF h.proto (baseF h) d).key ∧ quoKind b = (dataF h.proto (baseF h) d).kind ∧ quoKind b ≠ 0 := by
    unfold quoKey quoKind
    dsimp only
    rw [hproto, hsrc, hdst, hsz, hdrop, r0, r2, r4, hpre 0 (by omega), hpre 1 (by omega)]
    rcases hp with e | e | e <;> rw [e] at hE hk ⊢
    · have hE2 : tcpE d = 0 := hE
      have hz : ¬ (w16At d 0 = 0 ∨ w16At d 2 = 0) := by
        unfold tcpE at hE2
        split at hE2; · omega
        split at hE2; · omega
        split at hE2; · omega
        split at hE2
        · omega
        · assumption
      refine ⟨by simp [dataF, tcpF, baseF, Facts.zero, e], ?_, ?_⟩
      · rw [if_pos (by omega), if_neg hz]; rfl
      · rw [if_pos (by omega), if_neg hz]; decide
    · have hE2 : udpE2 d = 0 := hE
      have hz : ¬ (w16At d 0 = 0 ∨ w16At d 2 = 0) := by
        unfold udpE2 at hE2
        split at hE2
        · rename_i h1
          exact absurd hE2 h1
        · rename_i h1
          split at hE2
          · omega
          · rename_i h2
            intro h3
            rcases h3 with h3 | h3
            · exact h2 h3
            · apply h1
              unfold udpE
              split
              · decide
              · split
                · decide
                · first | omega | (rw [if_pos h3]; decide)
      refine ⟨by simp [dataF, udpF, baseF, Facts.zero, e], ?_, ?_⟩
      · rw [if_pos (by omega), if_neg hz]; rfl
      · rw [if_pos (by omega), if_neg hz]; decide
    · have hE2 : icmpE2 d = 0 := hE
      have hE3 : icmpE d = 0 := by
        unfold icmpE2 at hE2
        split at hE2
        · exact hE2
        · rename_i h1; omega
      have hk2 : kind2 (d.getD 0 0).toNat (d.getD 1 0).toNat = 0 := by
        unfold icmpE at hE3
        split at hE3
        · omega
        · exact hE3
      have hk3 := kind1_pos hk2
      have hk4 : icmpK d ≠ 5 := by
        intro h5
        apply hk
        show (icmpF (baseF h) d).kind = 5
        unfold icmpF
        rw [if_neg (by simp [h5])]
        exact h5
      have hf : dataF 1 (baseF h) d = icmpF (baseF h) d := rfl
      unfold icmpF at hf
      rw [if_pos hk4] at hf
      rw [hf]
      refine ⟨by simp [baseF, Facts.zero, e], ?_, ?_⟩
      · rw [if_neg (by omega), if_pos (by omega)]; rfl
      · rw [if_neg (by omega), if_pos (by omega)]; omega
  refine ⟨?_, main.1, main.2.1⟩
  unfold quoE
  rw [hN, if_neg (by omega), if_neg main.2.2, if_neg (by rw [main.2.1]; exact hk)]
end Go.Proofs.YtebeekjcepjcnaaGreatDoor
namespace Go.Proofs.YtebeekjcepjcnaaGreatDoor
open Go.RowKit
theorem reason_bd (h : IpH) : 0 ≤ h.reason ∧ h.reason ≤ 12 := by
  unfold IpH.reason
  repeat' split
  all_goals omega
end Go.Proofs.YtebeekjcepjcnaaGreatDoor
