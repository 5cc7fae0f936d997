/-
  What bafflelaw11.Made returns is a packet that is read; an append onto a slice without room.
  ip.Hop and ip.Turn of a packet that ip.Write wrote.
  A packet that is made, with its TTL lower, or turned, is read (plain).
  Package build: Reject.
  The reference of layer 12: Build of an error's facts.
  bafflekit.SameBytes at equal bytes; the examples of the chapters 11 and 12. bafflelaw12.tells: the program and the reference say the same of any facts.
-/
import Derived.Test.YtebeekjcepjcnaaGreatDoorRMade11p
namespace Go.Proofs.YtebeekjcepjcnaaGreatDoor
open Go.RowKit
structure M11Law (x : Sm) (os : List OE) (data : List Int) (f : Facts) : Prop where
  ok : (m11H x f.key.proto os).Ok
  right : (m11H x f.key.proto os).Right data.length
  reason : (m11H x f.key.proto os).reason = 0
  optl : (m11H x f.key.proto os).opts.length ≤ 40
  proto : f.key.proto = 6 ∨ f.key.proto = 17 ∨ f.key.proto = 1
  byt : Byt (ipWriteL (m11H x f.key.proto os) data)
  len : (ipWriteL (m11H x f.key.proto os) data).length ≤ 460
  back : ∀ behind, pktR (ipWriteL (m11H x f.key.proto os) data ++ behind) = 0 ∧ pktF (ipWriteL (m11H x f.key.proto os) data ++ behind) = m11F x f
  fok : (m11F x f).Ok
  fright : (m11F x f).right = true
theorem m11_law {x : Sm} (hx : x.Ok) {os : List OE} (hos : OsOk os) {k : Nat} {data : List Int} {f : Facts} (hC : Cont k data f) (hk : k < 4) : M11Law x os data f := by
  have hol := hos.len
  have hob := oeB_byt hos
  have hsb := hostI_bd x.src
  have hdb := dstI_ne x.src x.dst hx.dst.1 hx.dst.2
  have hzl : (List.replicate ((4 - (oeB os).length % 4) % 4) (0 : Int)).length = (4 - (oeB os).length % 4) % 4 := List.length_replicate
  have holl : (m11H x f.key.proto os).opts.length = (oeB os).length + (4 - (oeB os).length % 4) % 4 := by
    show (oeB os ++ List.replicate _ _).length = _
    rw [List.length_append, hzl]
  have hpr : f.key.proto = 6 ∨ f.key.proto = 17 ∨ f.key.proto = 1 := by
    rw [hC.proto]
    rcases (show k = 0 ∨ k = 1 ∨ k = 2 ∨ k = 3 by omega) with rfl | rfl | rfl | rfl <;> simp
  have hlen := hC.len
  have hOk : (m11H x f.key.proto os).Ok := ⟨hx.tos.1, hx.tos.2, hx.id.1, hx.id.2, (by show 0 ≤ max x.ttl 1; omega), (by have := hx.ttl.2; show max x.ttl 1 < 256; omega), (by show 0 ≤ f.key.proto; omega), (by show f.key.proto < 256; omega), (by show 0 ≤ hostI x.src; omega), (by show hostI x.src < _; omega), (by show 0 ≤ dstI x.src x.dst; omega), (by show dstI x.src x.dst < _; omega), hob.append (Byt.zeros _)⟩
  have hR : (m11H x f.key.proto os).Right data.length := ⟨show (0 : Int) ≤ 0 by decide, show (0 : Int) ≤ 65528 by decide, rfl, by rw [holl]; omega, by rw [holl]; omega, by rw [holl]; omega, by show (0 : Int) + data.length ≤ 65515; omega, fun h => by simp [m11H] at h⟩
  have hrs : (m11H x f.key.proto os).reason = 0 := by
    obtain ⟨r1, r2⟩ := optRead_os hos ((4 - (oeB os).length % 4) % 4) (by omega)
    unfold IpH.reason
    have e1 : (m11H x f.key.proto os).opts = oeB os ++ List.replicate ((4 - (oeB os).length % 4) % 4) 0 := rfl
    have s1 : strangeB (hostI x.src) = false := by unfold strangeB; simp; omega
    have s2 : strangeB (dstI x.src x.dst) = false := by unfold strangeB; simp; omega
    have s3 : (hostI x.src == dstI x.src x.dst) = false := by
      have := hdb.1
      simp only [beq_eq_false_iff_ne, ne_eq]
      exact fun h => this h.symm
    rw [if_neg (by simp [m11H]), e1, r1]
    rw [if_neg (by simp), if_neg (by rw [r2]; decide), if_neg (by show ¬ max x.ttl 1 = 0; omega), if_neg]
    show ¬ (strangeB (hostI x.src) || strangeB (dstI x.src x.dst) || hostI x.src == dstI x.src x.dst) = true
    rw [s1, s2, s3]
    decide
  have hby : Byt (ipWriteL (m11H x f.key.proto os) data) := ipWriteL_byt hOk hR.len hC.byt
  have hll : (ipWriteL (m11H x f.key.proto os) data).length ≤ 460 := by rw [ipWriteL_len, holl]; omega
  have hbk : ∀ behind, pktR (ipWriteL (m11H x f.key.proto os) data ++ behind) = 0 ∧ pktF (ipWriteL (m11H x f.key.proto os) data ++ behind) = m11F x f := fun behind => by
    obtain ⟨p1, p2⟩ := pkt_back (m11H x f.key.proto os) data behind hOk hR
    have hp : (m11H x f.key.proto os).proto = f.key.proto := rfl
    rw [hrs, if_neg (by simp), hp, if_neg (by omega), hC.data] at p1
    have h0 : reasonOf 0 = 0 := by decide
    rw [h0] at p1
    refine ⟨p1, (p2 p1).trans ?_⟩
    rw [hp, hC.facts _ hp]
    rfl
  have hb0 := hbk []
  rw [List.append_nil] at hb0
  refine ⟨hOk, hR, hrs, hR.len, hpr, hby, hll, hbk, ?_, ?_⟩
  · rw [← hb0.2]; exact pktF_ok hby (by omega)
  · rw [← hb0.2]; exact pkt_right hby hb0.1
section
variable {P : Program} {ops : Array Oper} {Q : Exit → Act → World → Prop} {E : Nat → World → Prop} {S : List Nat} {G : World → World → Prop} {fr : List Nat} {FF : Nat → Value → World → Prop}
end
/-- Two blocks just made, and both stored. -/
theorem two_blocks (w : World) (tH tF : TypeId) (HZ FZ RH RF : Array Value) :
    Blk ((w.alloc (.cells HZ tH)).alloc (.cells FZ tF)) w.heap.size tH HZ ∧ Blk (((w.alloc (.cells HZ tH)).alloc (.cells FZ tF)).setRow w.heap.size RH) (w.heap.size + 1) tF FZ ∧
    ∀ W4, W4 = (((w.alloc (.cells HZ tH)).alloc (.cells FZ tF)).setRow w.heap.size RH).setRow (w.heap.size + 1) RF → Below w.heap.size w W4 ∧ W4.heap.size = w.heap.size + 2 ∧ Blk W4 w.heap.size tH RH ∧ Blk W4 (w.heap.size + 1) tF RF := by
  obtain ⟨h1, h2, h3, h4⟩ := blocks2 (w := w) (A := HZ) (t := tH) (A1 := FZ) (t1 := tF)
  refine ⟨h3, (setRow_other _ _ _ _ (by omega)).trans h4, ?_⟩
  rintro W4 rfl
  refine ⟨below_setRow (below_setRow h1 (Nat.le_refl _) _) (by omega) _, by simp, (setRow_other _ _ _ _ (by omega)).trans (setRow_heap _ _ _ _ _ _ h3), setRow_heap _ _ _ _ _ _ ((setRow_other _ _ _ _ (by omega)).trans h4)⟩
theorem wp_two {P : Program} {c : Code} {Q : Exit → Act → World → Prop} {a : Act} {w : World} {tH tF : TypeId} {HZ FZ RH RF : Array Value}
    (h : ∀ w1, Below w.heap.size w w1 → w1.heap.size = w.heap.size + 2 → Blk w1 w.heap.size tH RH → Blk w1 (w.heap.size + 1) tF RF → c.wp P Q a w1) :
    c.wp P Q a ((((w.alloc (.cells HZ tH)).alloc (.cells FZ tF)).setRow w.heap.size RH).setRow (w.heap.size + 1) RF) := by
  obtain ⟨_, _, h3⟩ := two_blocks w tH tF HZ FZ RH RF
  obtain ⟨a1, a2, a3, a4⟩ := h3 _ rfl
  exact h _ a1 a2 a3 a4
end Go.Proofs.YtebeekjcepjcnaaGreatDoor
namespace Go.Proofs.YtebeekjcepjcnaaGreatDoor
open Go.RowKit
/-- The header with both addresses exchanged. -/
def IpH.turn (h : IpH) : IpH := { h with src := h.dst, dst := h.src }
/-- What ip.Read says of a packet that was written. -/
theorem read_back (h : IpH) (A : Option Addr) (cap n : Nat) (data : List Int) (w : World) (ho : h.Ok) (hR : h.Right data.length) (hl : data.length ≤ 65535) (hdb : Byt data) (hn : (ipWriteL h data).length = n) (hcap : n ≤ cap) (hr : Rd w w.heap.size A .u8 (ipWriteL h data)) :
    Calls Tryz.prog 23 #[.slice A n cap] w fun e W => ∃ q : Option Addr × Nat, e = .returned (.tuple #[.agg #[.int .u8 h.tos, .int .u16 h.id, .bool h.df, .bool h.mf, .int .i64 h.off, .int .u8 h.ttl, .int .u8 h.proto, .int .u32 h.src, .int .u32 h.dst, .slice q.1 h.opts.length q.2], .int .i64 ((20 + h.opts.length : Nat) : Int), .int .i64 ((20 + h.opts.length + data.length : Nat) : Int), .int .i64 0]) ∧ Own W w.heap.size (.slice q.1 h.opts.length q.2) h.opts ∧ Below w.heap.size w W := by
  have k : IpBack h data.length (ipWriteL h data) := ip_back h data.length data ho hR
  have hlen := ipWriteL_len h data
  have hE := k.eip hR (by omega)
  have hN : ipN (ipWriteL h data) = 7 := by
    have h1 := firstB_le (ipT (ipWriteL h data)) 7 0
    unfold ipE at hE
    unfold ipN at *
    split at hE <;> omega
  refine (ipRead_any A cap n (ipWriteL h data) w hn (by have := hR.len; omega) hcap (ipWriteL_byt ho hR.len hdb) hr).mono ?_
  rintro e W ⟨v, rfl, hown, l⟩
  have ho2 := hown hN
  rw [k.hdr] at ho2
  obtain ⟨q, rfl⟩ := ho2.shape rfl
  refine ⟨q, ?_, ho2, l⟩
  unfold ipOut
  rw [if_pos hN, if_pos hN, if_pos hN, hE, k.size, k.total]
  unfold ipN10
  rw [k.hdr]
theorem drop_cat {h : IpH} {data : List Int} : (ipWriteL h data).drop (20 + h.opts.length) = data := by
  unfold ipWriteL
  exact List.drop_left' (headL_len h data.length)
theorem written_some {w : World} {B : Nat} {A : Option Addr} {h : IpH} {data : List Int} (hr : Rd w B A .u8 (ipWriteL h data)) : ∃ b off, A = some ⟨b, off, none⟩ := by
  obtain ⟨b, off, e, _⟩ := hr.at0 (by rw [ipWriteL_len]; omega)
  exact ⟨b, off, e⟩
set_option maxRecDepth 100000 in
set_option maxHeartbeats 4000000 in
theorem hop_any (h : IpH) (A : Option Addr) (cap n : Nat) (data : List Int) (w : World) (ho : h.Ok) (hR : h.Right data.length) (hl : data.length ≤ 65535) (h0 : 0 < data.length) (hdb : Byt data) (httl : 2 ≤ h.ttl) (hn : (ipWriteL h data).length = n) (hcap : n ≤ cap) (hr : Rd w w.heap.size A .u8 (ipWriteL h data)) :
    Calls Tryz.prog 11 #[.slice A n cap] w fun e W => ∃ v, e = .returned (.tuple #[v, .int .i64 0]) ∧ Own W w.heap.size v (ipWriteL { h with ttl := h.ttl - 1 } data) ∧ Below w.heap.size w W := by
  have hlen := ipWriteL_len h data
  obtain ⟨b, off, rfl⟩ := written_some hr
  have HRd := Lib.hid (read_back h _ cap n data w ho hR hl hdb hn hcap hr)
  have ho2 : ({ h with ttl := h.ttl - 1 } : IpH).Ok := { ho with ttl0 := (by show 0 ≤ h.ttl - 1; omega), ttl1 := (by show h.ttl - 1 < 256; have := ho.ttl1; omega) }
  have hR2 : ({ h with ttl := h.ttl - 1 } : IpH).Right data.length := ⟨hR.off0, hR.off1, hR.off8, hR.len, hR.len4, hR.all, hR.offn, hR.mf⟩
  have HD := Lib.hid (fun (W : World) (hb : Below w.heap.size w W) => (show Rd W W.heap.size (some ⟨b, off + (20 + h.opts.length), none⟩) .u8 data from by
    have h1 := (hr.below hb (Nat.le_refl _)).drop (20 + h.opts.length) (A' := some ⟨b, off + (20 + h.opts.length), none⟩) (fun _ b' o' e => by
      simp only [Option.some.injEq, Addr.mk.injEq, and_true] at e
      obtain ⟨rfl, rfl⟩ := e
      rfl)
    rw [drop_cat] at h1
    exact h1.more hb.size))
  have HW := Lib.hid (fun (W : World) (q : Option Addr × Nat) (c' : Nat) (hb : Below w.heap.size w W) (hq : Own W w.heap.size (.slice q.1 h.opts.length q.2) h.opts) => ipWrite_any { h with ttl := h.ttl - 1 } q.1 q.2 (some ⟨b, off + (20 + h.opts.length), none⟩) c' data W ho2 hR2 hq.rd (HD.out W hb))
  have htw : IntKind.u8.wrap (h.ttl - 1) = h.ttl - 1 := by rw [IntKind.wrap_u8]; have := ho.ttl1; omega
  have ht2 : decide (h.ttl < 2) = false := by simp; omega
  obtain ⟨fr, hfr⟩ : ∃ fr : Nat, 20 + h.opts.length = fr := ⟨_, rfl⟩
  obtain ⟨dl, hdl⟩ : ∃ dl : Nat, data.length = dl := ⟨_, rfl⟩
  rw [hfr] at HW HRd
  rw [hdl] at HW HRd
  dsimp only [IpH.val] at HW
  have hcf : (fr : Int) ≤ cap := by omega
  have hto : ((fr + dl : Nat) : Int) ≤ cap := by omega
  have hft : (fr : Int) ≤ ((fr + dl : Nat) : Int) := by omega
  have hne : ¬ (cap = fr) := by omega
  have hne2 : ¬ ((cap : Int) = fr) := by omega
  clear hr ho hR hdb hn ho2 hR2 hlen HD hfr hdl httl h0 hl hcap
  generalize ipWriteL { h with ttl := h.ttl - 1 } data = out at *
  obtain ⟨tos, ident, df, mf, off', ttl, proto, src, dst, opts⟩ := h
  dsimp only at *
  generalize hol : opts.length = ol at *
  clear hol
  go_enter Tryz.func11, Tryz.ntmps11
  go_upto_region 2 with (first | (go_at_call 23; refine HRd.out.mono ?_; rintro e w1 ⟨q, rfl, hq, l1⟩) | ((with_reducible refine look_store ?_); refine wpList_store_new rfl _ _ _ rfl _ _ rfl rfl _ _ rfl (by kernel_rfl) (by simp) (by simp [Value.oneCell']) ?_) | fail)
  try dsimp only [Act.put]
  refine wp_name1 ?_
  intro w2 hb2 hs2 bh
  have L2 := Lib.hid (l1.trans (hb2.mono l1.size))
  have hq2 := hq.below hb2 (Nat.le_refl _)
  have hch := bh.cell
  have hfh := bh.frozen
  have hz1 := Lib.hid (show w.heap.size ≤ w1.heap.size from l1.size)
  have hqf := Lib.hid (show ∀ g, (Value.slice q.1 ol q.2).ownBlock = some g → g < w1.heap.size from fun g hg => (hq.lt hg).2)
  clear hb2 hs2 l1 hq HRd
  go_upto_region 7 with fail
  try dsimp only [Act.put]
  have hlt1 := bh.lt
  have bh3 : Blk (w2.setCell ⟨w1.heap.size, 5, none⟩ (.int .u8 (ttl - 1))) w1.heap.size 37 #[.int .u8 tos, .int .u16 ident, .bool df, .bool mf, .int .i64 off', .int .u8 (ttl - 1), .int .u8 proto, .int .u32 src, .int .u32 dst, .slice q.1 ol q.2] := bh.set 5 _
  have hq3 := hq2.setCell_far (a := ⟨w1.heap.size, 5, none⟩) (fun e => by have h := hqf.out _ e; simp only at h; omega) (.int .u8 (ttl - 1))
  have hb3 := L2.out.setCell (p := ⟨w1.heap.size, 5, none⟩) hz1.out (.int .u8 (ttl - 1))
  clear bh hq2 L2 hch hfh hz1 hqf hlt1
  revert bh3 hq3 hb3
  generalize w2.setCell ⟨w1.heap.size, 5, none⟩ (.int .u8 (ttl - 1)) = w3
  intro bh3 hq3 hb3
  have L3 := Lib.hid hb3
  have HQ := Lib.hid hq3
  have hto2 : (fr : Int) + dl ≤ cap := by omega
  have hft2 : (fr : Int) ≤ fr + dl := by omega
  have hs3 := bh3.lt
  clear hb3 hq3
  refine wp_region_walk0 (by kernel_rfl) (fun _ W => St w3 w3.heap.size [] W) [] Grow [0, 1, 2, 3, 4, 5, 6, 7, 8, 9] (by kernel_rfl) (St.nil (Below.refl _ w3) (Nat.le_refl _)).drew ?_
  iterate 5
    apply Walk.one rfl rfl rfl
    case hrun =>
      intro c W hE hF
      have bhW := bh3.below hE.1 bh3.lt
      go_wp2_with (first | ((with_reducible refine look_load ?_); refine wpList_load_row rfl _ _ rfl _ rfl _ _ _ _ bhW Tryz.underlying37 rfl (by kernel_rfl) ?_) | fail)
      exact TextPost.mk ⟨Grow.refl _, hE⟩
    case hv => rfl
  simp only [Nat.add_sub_cancel_left]
  refine Walk.anyOf (fun v => .tuple #[v, .int .i64 0]) tup_inj (fun v W => Own W w.heap.size v out) (fun _ _ _ h hG => h.keep hG) rfl rfl rfl (by kernel_rfl) (by kernel_rfl) ?_ (fun v => ?_)
  · intro c W hE hF
    have H7 := HW.out W q (cap - fr) (L3.out.trans (hE.1.mono L3.out.size)) (HQ.out.below hE.1 (Nat.le_refl _))
    have hbl := L3.out.size
    go_wp2_with fail
    refine H7.mono ?_
    rintro e W2 ⟨v, rfl, hown, l⟩
    go_wp2_with fail
    exact ⟨v, rfl, hown.base_le (by have := hE.2.1; omega), l, hE.below l⟩
  dsimp only [Act.put]
  simp only [List.setIfInBounds_toArray, List.set_cons_succ, List.set_cons_zero]
  iterate 4
    apply Walk.one rfl rfl rfl
    case hrun =>
      intro c W hE hF
      go_wp2_with fail
      exact TextPost.mk ⟨Grow.refl _, hE⟩
    case hv => rfl
  refine Walk.done (fun W hE hF => ?_)
  have hown := hF.head
  have hbW := L3.out.trans (hE.1.mono L3.out.size)
  clear hE hF
  go_wp2_with fail
  go_ret2
  exact ⟨v, rfl, hown, hbW⟩
end Go.Proofs.YtebeekjcepjcnaaGreatDoor
namespace Go.Proofs.YtebeekjcepjcnaaGreatDoor
open Go.RowKit
theorem reason_make {h : IpH} (h1 : h.off = 0) (h2 : h.mf = false) (h3 : (optRead h.opts).2 = 0) (h4 : routedB (optRead h.opts).1 = false) (h5 : h.ttl ≠ 0) (h6 : strangeB h.src = false) (h7 : strangeB h.dst = false) (h8 : (h.src == h.dst) = false) : h.reason = 0 := by
  unfold IpH.reason
  rw [if_neg (by rw [h1, h2]; simp), if_neg (by rw [h3]; simp), if_neg (by rw [h4]; decide), if_neg h5, if_neg (by rw [h6, h7, h8]; decide)]
/-- The header with a TTL that is lower. -/
def IpH.down (h : IpH) (j : Nat) : IpH := { h with ttl := h.ttl - j }
theorem down_zero (h : IpH) : h.down 0 = h := by
  unfold IpH.down
  rw [show h.ttl - ((0 : Nat) : Int) = h.ttl by omega]
theorem down_next (h : IpH) (j : Nat) : ({ h.down j with ttl := (h.down j).ttl - 1 } : IpH) = h.down (j + 1) := by
  show ({ h with ttl := h.ttl - (j : Int) - 1 } : IpH) = { h with ttl := h.ttl - ((j + 1 : Nat) : Int) }
  rw [show h.ttl - (j : Int) - 1 = h.ttl - ((j + 1 : Nat) : Int) by omega]
theorem down_ok {h : IpH} (ho : h.Ok) {j : Nat} (hj : (j : Int) ≤ h.ttl) : (h.down j).Ok := { ho with ttl0 := (by show 0 ≤ h.ttl - j; omega), ttl1 := (by show h.ttl - (j : Int) < 256; have := ho.ttl1; omega) }
theorem down_right {h : IpH} {n : Nat} (hR : h.Right n) (j : Nat) : (h.down j).Right n := ⟨hR.off0, hR.off1, hR.off8, hR.len, hR.len4, hR.all, hR.offn, hR.mf⟩
theorem down_reason {h : IpH} (hr : h.reason = 0) {j : Nat} (hj : (j : Int) < h.ttl) : (h.down j).reason = 0 := by
  obtain ⟨h1, h2, h3, h4, h5, h6, h7, h8⟩ := reason_open hr
  exact reason_make h1 h2 h3 h4 (by show h.ttl - (j : Int) ≠ 0; omega) h6 h7 h8
theorem down_len (h : IpH) (j : Nat) (data : List Int) : (ipWriteL (h.down j) data).length = (ipWriteL h data).length := by rw [ipWriteL_len, ipWriteL_len]; rfl
end Go.Proofs.YtebeekjcepjcnaaGreatDoor
namespace Go.Proofs.YtebeekjcepjcnaaGreatDoor
open Go.RowKit

def Facts.rejectOk (f : Facts) (k c : Nat) : Facts := { Facts.zero with key := ⟨1, f.key.dst, f.key.src, 0, 0⟩, kind := 5, type := k, code := c, length := 28, quoted := f.key, qkind := f.kind }
def Facts.rejectF (f : Facts) (k c : Nat) : Facts := if f.right = false then Facts.zero else if f.kind = 5 then Facts.zero else if kind2 k c = 0 ∧ kind1 k c = 5 then f.rejectOk k c else Facts.zero
def Facts.rejectE (f : Facts) (k c : Nat) : Int := if f.right = false then 120 else if f.kind = 5 then 6 else if kind2 k c = 0 ∧ kind1 k c = 5 then 0 else 2

set_option maxRecDepth 100000 in
set_option maxHeartbeats 4000000 in
theorem reject_any (f : Facts) (k c : Nat) (w : World) (ho : f.Ok) (hs : SortsAt w) (hk : k < 256) :
    Calls Tryz.prog 7 #[f.val, .int .u8 k, .int .u8 c] w fun e w' => e = .returned (.tuple #[(f.rejectF k c).val, .int .i64 (f.rejectE k c)]) ∧ Below w.heap.size w w' := by
  have HR := Lib.hid (fun W h => right_all f W ho h)
  have HK := Lib.hid (fun (W : World) (h : SortsAt W) => kind_any k c W hk h)
  have Hs := Lib.hid hs
  have Hpost : ∀ b1 : Bool, f.right = b1 → ∀ b2 : Bool, (f.kind == 5) = b2 → ∀ b3 : Bool, (kind2 k c != 0) = b3 → ∀ b4 : Bool, (kind1 k c != 5) = b4 →
      f.rejectF k c = (if b1 = false then Facts.zero else if b2 then Facts.zero else if b3 = false ∧ b4 = false then f.rejectOk k c else Facts.zero) ∧ f.rejectE k c = (if b1 = false then 120 else if b2 then 6 else if b3 = false ∧ b4 = false then 0 else 2) := by
    rintro b1 rfl b2 rfl b3 rfl b4 rfl
    simp [Facts.rejectF, Facts.rejectE, bne]
  obtain ⟨b1, h1⟩ : ∃ b, f.right = b := ⟨_, rfl⟩
  obtain ⟨b2, h2⟩ : ∃ b, (f.kind == 5) = b := ⟨_, rfl⟩
  obtain ⟨b3, h3⟩ : ∃ b, (kind2 k c != 0) = b := ⟨_, rfl⟩
  obtain ⟨b4, h4⟩ : ∃ b, (kind1 k c != 5) = b := ⟨_, rfl⟩
  obtain ⟨hf, he⟩ := Hpost b1 h1 b2 h2 b3 h3 b4 h4
  rw [hf, he]
  rw [h1] at HR
  clear ho hs hk Hpost hf he h1
  generalize kind1 k c = e1 at *
  generalize kind2 k c = e2 at *
  obtain ⟨⟨k0, k1, k2, k3, k4⟩, kind, flags, type, code, seqn, ackn, window, length, ⟨q0, q1, q2, q3, q4⟩, qkind⟩ := f
  dsimp only [Facts.val, Facts.cells, Key.cells, List.cons_append, List.nil_append] at HR
  try dsimp only at h2
  have hV : (⟨⟨k0, k1, k2, k3, k4⟩, kind, flags, type, code, seqn, ackn, window, length, ⟨q0, q1, q2, q3, q4⟩, qkind⟩ : Facts).val = .agg #[.int .u8 k0, .int .u32 k1, .int .u32 k2, .int .u16 k3, .int .u16 k4, .int .u8 kind, .int .u8 flags, .int .u8 type, .int .u8 code, .int .u32 seqn, .int .u32 ackn, .int .i64 window, .int .i64 length, .int .u8 q0, .int .u32 q1, .int .u32 q2, .int .u16 q3, .int .u16 q4, .int .u8 qkind] := rfl
  rw [hV]
  clear hV
  cases b1
  · simp only [if_true]
    go_enter Tryz.func7, Tryz.ntmps7
    go_upto_region 1 with (fail)
    refine wp_name2 ?_
    intro w1 hb1 hs1 b0 bR
    have Hs1 := Lib.hid (Hs.out.below hb1 (Nat.le_refl _))
    go_upto_region 2 with (first | ((with_reducible refine look_load ?_); refine wpList_load_row rfl _ _ rfl _ rfl _ _ _ _ b0 Tryz.underlying41 rfl (by kernel_rfl) ?_) | (go_at_call 10; refine (HR.out _ Hs1.out).mono ?_; rintro e w2 ⟨rfl, l2⟩) | fail)
    have bR' := bR.below l2 bR.lt
    have hb2 := hb1.trans (l2.mono hb1.size)
    clear b0 bR l2 hb1 Hs1
    go_wp2_with (first | ((with_reducible refine look_store ?_); refine wpList_store_row rfl _ _ _ rfl _ _ rfl rfl _ _ bR' (by kernel_rfl) (by simp) (by simp [Value.oneCell']) ?_) | fail)
    exact bodyPost_ret (results_cell_tmp Tryz.results7 _ _ _ _ _ _ _ rfl (setRow_heap _ _ _ _ _ _ bR') Tryz.underlying41 rfl (by kernel_rfl)) rfl ⟨rfl, below_setRow hb2 (by omega) _⟩
  · simp only [Bool.true_eq_false, if_false]
    go_enter Tryz.func7, Tryz.ntmps7
    go_upto_region 1 with (fail)
    refine wp_name2 ?_
    intro w1 hb1 hs1 b0 bR
    have Hs1 := Lib.hid (Hs.out.below hb1 (Nat.le_refl _))
    go_upto_region 3 with (first | ((with_reducible refine look_load ?_); refine wpList_load_row rfl _ _ rfl _ rfl _ _ _ _ b0 Tryz.underlying41 rfl (by kernel_rfl) ?_) | (go_at_call 10; refine (HR.out _ Hs1.out).mono ?_; rintro e w2 ⟨rfl, l2⟩) | fail)
    have bR' := bR.below l2 bR.lt
    have b0' := b0.below l2 b0.lt
    have hb2 := hb1.trans (l2.mono hb1.size)
    have Hs2 := Lib.hid (Hs1.out.below l2 (Nat.le_refl _))
    clear b0 bR l2 hb1 Hs1
    have hc0 := b0'.cell
    cases b2
    · cases b3
      · cases b4
        · go_wp2_with (first | ((with_reducible refine look_store ?_); refine wpList_store_row rfl _ _ _ rfl _ _ rfl rfl _ _ bR' (by kernel_rfl) (by simp) (by simp [Value.oneCell']) ?_) | (go_at_call 20; refine (HK.out _ Hs2.out).mono ?_; rintro e wk ⟨rfl, rfl⟩) | fail)
          exact bodyPost_ret (results_cell_tmp Tryz.results7 _ _ _ _ _ _ _ rfl (setRow_heap _ _ _ _ _ _ bR') Tryz.underlying41 rfl (by kernel_rfl)) rfl ⟨rfl, below_setRow hb2 (by omega) _⟩
        · go_wp2_with (first | ((with_reducible refine look_store ?_); refine wpList_store_row rfl _ _ _ rfl _ _ rfl rfl _ _ bR' (by kernel_rfl) (by simp) (by simp [Value.oneCell']) ?_) | (go_at_call 20; refine (HK.out _ Hs2.out).mono ?_; rintro e wk ⟨rfl, rfl⟩) | fail)
          exact bodyPost_ret (results_cell_tmp Tryz.results7 _ _ _ _ _ _ _ rfl (setRow_heap _ _ _ _ _ _ bR') Tryz.underlying41 rfl (by kernel_rfl)) rfl ⟨rfl, below_setRow hb2 (by omega) _⟩
      · go_wp2_with (first | ((with_reducible refine look_store ?_); refine wpList_store_row rfl _ _ _ rfl _ _ rfl rfl _ _ bR' (by kernel_rfl) (by simp) (by simp [Value.oneCell']) ?_) | (go_at_call 20; refine (HK.out _ Hs2.out).mono ?_; rintro e wk ⟨rfl, rfl⟩) | fail)
        exact bodyPost_ret (results_cell_tmp Tryz.results7 _ _ _ _ _ _ _ rfl (setRow_heap _ _ _ _ _ _ bR') Tryz.underlying41 rfl (by kernel_rfl)) rfl ⟨rfl, below_setRow hb2 (by omega) _⟩
    · go_wp2_with (first | ((with_reducible refine look_store ?_); refine wpList_store_row rfl _ _ _ rfl _ _ rfl rfl _ _ bR' (by kernel_rfl) (by simp) (by simp [Value.oneCell']) ?_) | fail)
      exact bodyPost_ret (results_cell_tmp Tryz.results7 _ _ _ _ _ _ _ rfl (setRow_heap _ _ _ _ _ _ bR') Tryz.underlying41 rfl (by kernel_rfl)) rfl ⟨rfl, below_setRow hb2 (by omega) _⟩

end Go.Proofs.YtebeekjcepjcnaaGreatDoor
namespace Go.Proofs.YtebeekjcepjcnaaGreatDoor
open Go.RowKit Go.Shelf

def sLen : Value → Nat
  | .slice _ n _ => n
  | _ => 0
end Go.Proofs.YtebeekjcepjcnaaGreatDoor
namespace Go.Proofs.YtebeekjcepjcnaaGreatDoor
open Go.RowKit Go.Shelf

def SameE (w0 : World) (p q : Addr) (x : Value) (_ : Nat) (W : World) : Prop := Below w0.heap.size w0 W ∧ W.cell? p = some x ∧ W.cell? q = some x
set_option maxRecDepth 100000 in
set_option maxHeartbeats 1000000 in
theorem same_any (A B : Option Addr) (ca cb n : Nat) (xs : List Int) (w : World) (hn : xs.length = n) (hl : n ≤ 1000000) (hA : Rd w w.heap.size A .u8 xs) (hB : Rd w w.heap.size B .u8 xs) :
    Calls Tryz.prog 14 #[.slice A n ca, .slice B n cb] w fun e w' => e = .returned (.bool true) ∧ Below w.heap.size w w' := by
  have Hn := Lib.hid hn
  clear hn
  go_enter Tryz.func14, Tryz.ntmps14
  go_wp2_with fail
  go_loopw [5] (fun i wr => ∃ k : Nat, k ≤ n ∧ i = .int .i64 k ∧ Below w.heap.size w wr) (fun i _ => n - (intOf i).toNat)
  case atStart => exact ⟨0, by omega, rfl, Below.refl _ _⟩
  case round =>
    obtain ⟨k, hk, rfl, hbw⟩ := hrel
    by_cases hlt : k < n
    · obtain ⟨b1, o1, rfl, hb1, hc1⟩ := hA k (by rw [Hn.out]; exact hlt)
      obtain ⟨b2, o2, rfl, hb2, hc2⟩ := hB k (by rw [Hn.out]; exact hlt)
      have d1 : wr.cell? ⟨b1, o1 + k, none⟩ = some (.int .u8 (xs.getD k 0)) := (hbw.cell (p := ⟨b1, o1 + k, none⟩) hb1).trans hc1
      have d2 : wr.cell? ⟨b2, o2 + k, none⟩ = some (.int .u8 (xs.getD k 0)) := (hbw.cell (p := ⟨b2, o2 + k, none⟩) hb2).trans hc2
      generalize xs.getD k 0 = x at *
      have hE0 : SameE w ⟨b1, o1 + k, none⟩ ⟨b2, o2 + k, none⟩ (.int .u8 x) 0 wr.drew := ⟨hbw.drew, d1, d2⟩
      clear hc1 hc2 hA hB d1 d2 hb1 hb2
      go_wp2_with fail
      refine wp_region_walk0 (by kernel_rfl) (SameE w ⟨b1, o1 + k, none⟩ ⟨b2, o2 + k, none⟩ (.int .u8 x)) [] (fun _ _ => GTop w w) [0, 1, 2, 3, 4, 5, 6, 7, 8] (by kernel_rfl) hE0 ?_
      iterate 9
        apply Walk.one rfl rfl rfl
        case hrun =>
          intro c W hE hF
          have hca := hE.2.1
          have hcb := hE.2.2
          go_wp2_with fail
          exact TextPost.mk ⟨GTop.mk, hE⟩
        case hv => rfl
      refine Walk.done (fun W hE hF => ?_)
      have hbW := hE.1
      clear hE hF hE0
      go_wp2_with fail
      go_roundw
      case rel => exact ⟨k + 1, by omega, by go_num, hbW⟩
      case measure => simp [intOf]; omega
    · obtain rfl : k = n := by omega
      go_wp2_with fail
      go_ret
      exact ⟨rfl, hbw⟩

/-- The facts of the chapter's examples. -/
def exF : Facts := ⟨⟨6, 167772161, 167772162, 1024, 80⟩, 1, 2, 0, 0, 1, 0, 512, 0, Key.zero, 0⟩
set_option maxRecDepth 100000 in
set_option maxHeartbeats 1000000 in
theorem ex12_any (w : World) : Calls Tryz.prog 12 #[] w fun e w' => e = .returned exF.val ∧ Below w.heap.size w w' := by
  go_enter Tryz.func12, Tryz.ntmps12
  go_upto_region 1 with (fail)
  refine wp_name1 ?_
  intro w1 hb1 hs1 bR
  go_wp2_with (first | ((with_reducible refine look_store ?_); refine wpList_store_row rfl _ _ _ rfl _ _ rfl rfl _ _ bR (by kernel_rfl) (by simp) (by simp [Value.oneCell']) ?_) | fail)
  exact bodyPost_ret (results_cell_row Tryz.results12 _ _ _ _ _ _ _ rfl (setRow_heap _ _ _ _ _ _ bR) Tryz.underlying41 rfl (by kernel_rfl)) rfl ⟨rfl, below_setRow hb1 (by omega) _⟩

/-- The packet of the chapter's examples. -/
def exB : List Int := [69, 0, 0, 40, 0, 0, 0, 0, 64, 6, 102, 206, 10, 0, 0, 1, 10, 0, 0, 2, 4, 0, 0, 80, 0, 0, 0, 1, 0, 0, 0, 0, 80, 2, 2, 0, 149, 143, 0, 0]
set_option maxRecDepth 100000 in
set_option maxHeartbeats 1000000 in
theorem ex11_any (w : World) : Calls Tryz.prog 15 #[] w fun e w' => ∃ g, e = .returned (.slice (some ⟨g, 0, none⟩) 40 40) ∧ Own w' w.heap.size (.slice (some ⟨g, 0, none⟩) 40 40) exB ∧ Below w.heap.size w w' := by
  go_enter Tryz.func15, Tryz.ntmps15
  go_wp2_with fail
  go_ret
  exact ⟨_, rfl, own_lit w w.heap.size 40 exB _ rfl rfl (by simp [maxLen]) (Nat.le_refl _), (Below.refl _ _).alloc (Nat.le_refl _) _⟩

end Go.Proofs.YtebeekjcepjcnaaGreatDoor

namespace Go.Proofs.YtebeekjcepjcnaaGreatDoor
open Go.RowKit Go.Shelf

theorem facts_eqB_refl (f : Facts) : f.eqB f = true := Facts.eqB_iff.2 rfl
theorem run_ne_facts (f : Facts) (W : World) : (binOp .neq 41 f.val f.val).run Tryz.prog W = .ok (.bool false) W := by
  have h := run_eq_facts f f W
  rw [facts_eqB_refl] at h
  unfold Facts.val at h ⊢
  rw [run_eql_struct] at h
  rw [run_neq_struct]
  cases hr : (Op.equalIn 10000 41 (.agg f.cells.toArray) (.agg f.cells.toArray)).run Tryz.prog W with
  | ok b w' =>
    rw [hr] at h
    simp only [Result.andThen_ok, Result.ok.injEq, Value.bool.injEq] at h
    obtain ⟨rfl, rfl⟩ := h
    rfl
  | halt x w' =>
    rw [hr] at h
    cases h
/-- What both make of facts. -/
def Facts.madeL (f : Facts) : List Int := if f.right then f.buildL else []
def Facts.madeE (f : Facts) : Int := if f.right then 0 else 120
theorem build_all (f : Facts) (w : World) (ho : f.Ok) (hs : SortsAt w) : Calls Tryz.prog 8 #[f.val] w fun e w' => ∃ A cap, e = .returned (.tuple #[.slice A f.madeL.length cap, .int .i64 f.madeE]) ∧ Own w' w.heap.size (.slice A f.madeL.length cap) f.madeL ∧ Below w.heap.size w w' := by
  unfold Facts.madeL Facts.madeE
  cases hr : f.right with
  | true =>
    refine (build_yes f w ho hr hs).mono ?_
    rintro e w' ⟨v, rfl, o, l⟩
    obtain ⟨A, cap, rfl, _⟩ := o.open_
    exact ⟨A, cap, rfl, o, l⟩
  | false =>
    refine (build_no f w ho hr hs).mono ?_
    rintro e w' ⟨rfl, l⟩
    exact ⟨none, 0, rfl, Own.nil_ _ _, l⟩
end Go.Proofs.YtebeekjcepjcnaaGreatDoor
