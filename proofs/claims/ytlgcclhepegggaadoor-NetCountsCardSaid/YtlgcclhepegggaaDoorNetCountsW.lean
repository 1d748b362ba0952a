/- The walk of bollardlaw14.NetCounts. -/
import Derived.Test.YtlgcclhepegggaaDoorNetCountsL
import Derived.Test.YtlgcclhepegggaaDoorScript14
import Derived.Test.YtlgcclhepegggaaDoorRowLoad
import Derived.DeepKeys
import Derived.Deep.DeepCutAuto
import Derived.Deep.Cut
import Derived.Deep.CutBlock
set_option linter.unusedVariables false
set_option maxRecDepth 100000
namespace Go.Proofs.YtlgcclhepegggaaDoor
open Go.RowKit

theorem Tryd.infoU8b : (Tryd.prog.info? 5).map (fun i => (i.zero, i.size, i.bytes)) = some (some (.int .u8 0), 1, 1) := by kernel_rfl
theorem u8_of (x : Int) : ∃ b : UInt8, IntKind.u8.wrap x = (b.toNat : Int) := by
  refine ⟨UInt8.ofNat (IntKind.u8.wrap x).toNat, ?_⟩
  have h : 0 ≤ IntKind.u8.wrap x ∧ IntKind.u8.wrap x < 256 := by simp [IntKind.wrap, IntKind.bits, IntKind.signed]; omega
  rw [UInt8.toNat_ofNat']
  omega
theorem eqSameE (w : World) (Z : Array Value) (h0 : (keyOf Tryd.prog 43 (.agg Z)).isSome = true) : (Op.equal 43 (.agg Z) (.agg Z)).run Tryd.prog w = .ok true w := by
  obtain ⟨l, hl⟩ := Option.isSome_iff_exists.1 h0
  obtain ⟨r, hr, hiff⟩ := run_equal_deep (P := Tryd.prog) w (m := 3) (by omega) (by kernel_rfl) (by kernel_rfl) hl hl
  obtain rfl : r = true := hiff.2 rfl
  exact hr
theorem eqSame (w : World) (Z : Array Value) (h0 : (keyOf Tryd.prog 43 (.agg Z)).isSome = true) : (binOp .eql 43 (.agg Z) (.agg Z)).run Tryd.prog w = .ok (.bool true) w := by
  have hr := eqSameE w Z h0
  simp only [binOp]
  simp [hr]
theorem eqSameIn (w : World) (Z : Array Value) (h0 : (keyOf Tryd.prog 43 (.agg Z)).isSome = true) : (Op.equalIn 10000 43 (.agg Z) (.agg Z)).run Tryd.prog w = .ok true w := eqSameE w Z h0
theorem cntV_zero : (cntV []).toArray = Tryd.zeroCells43 := by rw [cntV_nil]; kernel_rfl

set_option maxHeartbeats 16000000 in
theorem netCounts_any (w0 : World) (p : Option Addr) (nS cS : Nat) (os : List Op14) (hl : os.length = nS) (hn : nS ≤ cS) (hc : cS ≤ 2199023255552) (hA : Acts14 w0 p os) (aG aF aN : Addr) (eG : ErrAt w0 2 aG) (eF : ErrAt w0 10 aF) (eN : ErrAt w0 3 aN) :
    Calls Tryd.prog 4 #[.slice p nS cS] w0 fun e w' => e = .returned (.bool true) ∧ Only [] w0 w' := by
  have hal := alive14_any w0 aG aF eG eF
  have HG := Lib.hid eG
  have HF := Lib.hid eF
  have HN := Lib.hid eN
  have HA := Lib.hid hA
  have Hl := Lib.hid hl
  clear eG eF eN hA hl
  go_enter Tryd.func4, Tryd.ntmps4
  go_wp2_with fail
  (with_reducible refine (hal).mono ?_)
  rintro e w1 ⟨rfl, o1⟩
  clear hal
  have hnew := new_any w1
  have HO1 := Lib.hid o1
  clear o1
  go_wp2_with fail
  (with_reducible refine (hnew).mono ?_)
  rintro e w2 ⟨rfl, hnet, o2⟩
  clear hnew
  have HNet := Lib.hid hnet
  have HO2 := Lib.hid (HO1.out.trans0 o2)
  have Hb0 : Hid (w0.heap.size ≤ w1.heap.size) := Lib.hid HO1.out.size
  have Hb2 : Hid (w1.heap.size < w2.heap.size) := Lib.hid hnet.st.lt
  clear hnet o2
  go_upto_region 6 with (fail)
  go_cut [4] (fun s4 wx => s4 = .pointer (some ⟨w2.heap.size, 0, none⟩) ∧ Hid (Row wx w2.heap.size 43 (cntV [])) ∧ Hid (Only [] w2 wx))
  case first =>
    go_wp2_with fail
    go_meet
    exact ⟨rfl, Lib.hid (Row.newOf w2 43 _ _ (by rw [cntV_nil]; kernel_rfl)), Lib.hid (Only.alloc _ _)⟩
  case rest =>
  obtain ⟨rfl, HR, HO3⟩ := hcut
  obtain ⟨w3, hw3⟩ : ∃ w3, w3 = wc.alloc (.cells #[.int .u8 0] 5) := ⟨_, rfl⟩
  have o3 : Only [] wc w3 := by rw [hw3]; exact Only.alloc _ _
  have own3 : Own w3 wc.heap.size 5 (.slice (some ⟨wc.heap.size, 0, none⟩) 1 1) (u8s [0]) := by rw [hw3]; exact Own.ofRow (vs := u8s [0]) (rest := []) (Nat.le_refl _) (Row.new wc _ _) rfl (by omega)
  have hGlt := HR.out.lt
  have HS : Hid (CS w0 w1.heap.size w2.heap.size 0 w3 none 0 0 0 [] (some ⟨wc.heap.size, 0, none⟩) 1 [0]) := Lib.hid (by
    have h1 := Hb0.out
    have h2 := Hb2.out
    exact ⟨(HNet.out.only0 HO3.out).only0 o3, ⟨by simp, by simp⟩, by simp, own3.weaken (by omega), by simp [blk, netD, bbs]; omega, HR.out.only0 o3, by simp [netD, blk, bbs]; omega, by omega, by omega, (HO2.out.trans0 HO3.out).trans0 o3, h1, by omega⟩)
  generalize hBe : w1.heap.size = B0 at HS
  generalize hGe : w2.heap.size = G at HS
  have HBe := Lib.hid hBe
  have HGe := Lib.hid hGe
  rw [hw3] at HS
  clear hBe hGe o3 own3 hGlt hw3 HR HO3
  go_wp2_with fail
  go_loopw [28, 5] (fun a v wr => ∃ (j : Nat) (q : Option Addr) (n c last : Nat) (L : List Lt) (p : Option Addr) (d : Nat) (ms : List UInt8), a = .int .i64 (j : Int) ∧ j ≤ nS ∧ v = .slice p (last + 1) d ∧ Hid (CS w0 B0 G j wr q n c last L p d ms)) (fun a _ _ => nS - (intOf a).toNat)
  case atStart => exact ⟨0, none, 0, 0, 0, [], _, 1, [0], rfl, Nat.zero_le _, rfl, HS⟩
  case round =>
    obtain ⟨j, q, n, c, last, L, pw, d, ms, rfl, hj, rfl, HS⟩ := hrel
    by_cases hlt : j < nS
    · have hji : (j : Int) < (nS : Int) := by omega
      obtain ⟨o, ho⟩ : ∃ o, os[j]? = some o := ⟨_, List.getElem?_eq_getElem (by rw [Hl.out]; exact hlt)⟩
      obtain ⟨b, off, rfl, hok, c0, c1, c2, c3, c4, c5⟩ := (HA.out.only0 HS.out.only) j o ho
      obtain ⟨wo, hwo⟩ : ∃ wo, wo = wr.alloc (.cells #[.int .i64 o.kind, .int .i64 o.which, .int .i64 o.fr, .int .i64 o.to, .int .i64 o.n, .slice o.p o.m o.c] 29) := ⟨_, rfl⟩
      have oO : Only [] wr wo := by rw [hwo]; exact Only.alloc _ _
      have rO : Row wo wr.heap.size 29 [.int .i64 o.kind, .int .i64 o.which, .int .i64 o.fr, .int .i64 o.to, .int .i64 o.n, .slice o.p o.m o.c] := by rw [hwo]; exact Row.newOf _ _ _ _ rfl
      have HS1 := Lib.hid (HS.out.only0 oO)
      have HRO := Lib.hid rO
      have Hok := Lib.hid (hok.only0 oO)
      have HOO := Lib.hid (HS.out.only.trans0 oO)
      obtain ⟨⟨kd0, kd1⟩, -, -, -, ⟨no0, no1⟩, -⟩ := hok
      clear ho oO rO
      obtain ⟨kd, wh, fr, dst, no, bp, bm, bc, bs⟩ := o
      dsimp only at *
      have hws : wr.heap.size < wo.heap.size := HRO.out.lt
      have hOX : ∀ x ∈ netD B0 q L, x < wr.heap.size := fun x hx => (HS.out.net.lt x hx).2
      have HOX := Lib.hid hOX
      have HGw := Lib.hid HS.out.left.lt
      clear hOX
      go_upto_block 2 with fail
      rw [← hwo]
      clear hwo c0 c1 c2 c3 c4 c5
      have y0 := HRO.out.cell (i := 0) rfl
      have y4 := HRO.out.cell (i := 4) rfl
      have hn4 := HS1.out.n4
      have hlj := HS1.out.lj
      have hjn : j < 2199023255552 := by omega
      have HG1 := Lib.hid (HG.out.only0 HOO.out)
      have HF1 := Lib.hid (HF.out.only0 HOO.out)
      by_cases hkd : kd = 1
      · subst hkd
        obtain ⟨b, hb⟩ := u8_of no
        obtain ⟨w4, hw4⟩ : ∃ w4, w4 = wo.alloc (.cells #[.int .u8 (b.toNat : Int)] 5) := ⟨_, rfl⟩
        have o4 : Only [] wo w4 := by rw [hw4]; exact Only.alloc _ _
        have r4 : Row w4 wo.heap.size 5 (u8s [b]) := by rw [hw4]; exact Row.newOf _ _ _ _ rfl
        have HSc := Lib.hid (HS1.out.only0 o4)
        have hBw := HS1.out.net.st.lt
        have hsend := send_ok w4 B0 B0 q n c last L HSc.out.net 1 2 ⟨by omega, by omega⟩ (some ⟨wo.heap.size, 0, none⟩) 1 1 [b] rfl (by omega) (by simp) r4.rd0 (fun _ a ha => by obtain rfl := Option.some.inj ha; dsimp only; omega) (by omega) aF (HF1.out.only0 o4)
        have HRO4 := Lib.hid (HRO.out.only0 o4)
        clear o4 r4 hBw
        go_wp2_with fail
        rw [← hw4]
        refine hsend.mono ?_
        clear hsend hw4
        unfold PutEnd
        rintro e w5 (⟨-, rfl, o5⟩ | ⟨hn4', q', c', ol, rfl, n5, ⟨on, ofr, oto, oxs⟩, hbb, hq, o5⟩)
        · have HSe := Lib.hid (HSc.out.only0 o5).more
          clear o5
          unfold ev
          go_wp2_with fail
          refine ⟨⟨j + 1, q, n, c, last, L, pw, d, ms, by go_num, by omega, rfl, HSe⟩, ?_⟩
          show nS - ((j : Int) + 1).toNat < nS - ((j : Int)).toNat
          omega
        · have hro5 := HRO4.out.only o5 (fun hm => by
            have h1 := HOX.out wr.heap.size (by
              rcases List.mem_cons.1 hm with e | e
              · simp [netD, e]
              · simp [netD, e])
            omega)
          have hy4 := hro5.cell (i := 4) rfl
          have hGw := HGw.out
          have hXG : ¬ wr.heap.size = G := by omega
          clear hro5 hGw
          obtain ⟨own5, lf5, -⟩ := HSc.out.netOnly o5
          obtain ⟨cN, hcN⟩ : ∃ cN, cN = cnt L b.toNat := ⟨_, rfl⟩
          have hcell := lf5.cell (cntV_get L b)
          have hfree := lf5.free b.toNat
          rw [← hcN] at hcell
          have hcl : cN ≤ 4096 := by rw [hcN]; have h1 := cnt_le L b.toNat; have h2 := HSc.out.net.len; have h3 := HSc.out.n4; omega
          have hwc := IntWalk.i64_in ((cN : Int) + 1) (by omega)
          have hb256 := b.toNat_lt
          obtain ⟨w6, hw6⟩ : ∃ w6, w6 = (w5.setCell ⟨G, b.toNat, none⟩ (.int .i64 ((cN : Int) + 1))).alloc (.cells #[.int .u8 (b.toNat : Int)] 5) := ⟨_, rfl⟩
          have oA : Only [] (w5.setCell ⟨G, b.toNat, none⟩ (.int .i64 ((cN : Int) + 1))) w6 := by rw [hw6]; exact Only.alloc _ _
          have rA : Row w6 w5.heap.size 5 (u8s [b]) := by rw [hw6]; exact Row.newAt _ _ _ (by simp [World.setCell])
          have hsA := oA.size
          have hss : (w5.setCell ⟨G, b.toNat, none⟩ (.int .i64 ((cN : Int) + 1))).heap.size = w5.heap.size := by simp [World.setCell]
          have hbase : B0 ≤ w6.heap.size := by
            have h1 := HSc.out.net.st.lt
            have h2 := o5.size
            omega
          have ownS := (own5.only (Only.setCell w5 ⟨G, b.toNat, none⟩ (.int .i64 ((cN : Int) + 1))) (fun k hk hm => (HSc.out.apart k (ownBlk' (base := 0) hk)).2 (by simpa using hm))).only0 oA
          obtain ⟨p', d', w7, hr, own7, o7, hb7⟩ := append_owned (P := Tryd.prog) (bytes := 1) (c := 1) (q := some ⟨w5.heap.size, 0, none⟩) (m := 1) (news := u8s [b]) (t := 27) (ty := 27) w6 Tryd.underlying27 Tryd.infoU8b rfl ownS rA.rd0 rfl (by simp) (fun v hv => u8s_one hv) (by omega) (by omega) hbase
          rw [hcN] at oA
          have HS2 : Hid (CS w0 B0 G (j + 1) w7 q' (n + 1) c' (last + 1) (L ++ [ol]) p' d' (ms ++ [b])) := Lib.hid (HSc.out.put n5 on ofr oto oxs hbb hq o5 hn4' oA own7 o7 hb7)
          rw [hw6] at hr
          have Hr := Lib.hid hr
          have HcN := Lib.hid hcN

          clear hr n5 on ofr oto oxs hbb hq o5 hn4' own5 lf5 oA rA own7 o7 hb7 hw6 hbase hsA hss ownS hcN
          go_wp2_with (first | (at_builtin; refine wpl_append (s := .tmp 58) (x := .tmp 62) rfl rfl rfl rfl Hr.out ?_))

          refine ⟨⟨j + 1, q', n + 1, c', last + 1, L ++ [ol], p', d', ms ++ [b], by go_num, by omega, rfl, HS2⟩, ?_⟩
          show nS - ((j : Int) + 1).toNat < nS - ((j : Int)).toNat
          omega
      by_cases hkind : kd = 4 ∨ kd = 2 ∨ kd = 3
      · have hk1 : (kd == 1) = false := by simp; omega
        have hnth := nth_any wo B0 B0 q n c last L HS1.out.net (by omega) no ⟨no0, no1⟩
        have Hnth := Lib.hid hnth
        clear hnth hkd
        rcases hkind with rfl | rfl | rfl
        · skip
          go_wp2_with fail
          refine Hnth.out.mono ?_
          rintro e w4 ⟨o4, ⟨-, rfl⟩ | ⟨jl, ol0, hol, -, rfl⟩⟩
          · have HSe := Lib.hid (HS1.out.only0 o4).more
            clear o4
            go_wp2_with fail
            refine ⟨⟨j + 1, q, n, c, last, L, pw, d, ms, by go_num, by omega, rfl, HSe⟩, ?_⟩
            show nS - ((j : Int) + 1).toNat < nS - ((j : Int)).toNat
            omega
          · have HSc := Lib.hid (HS1.out.only0 o4)
            obtain ⟨mfr, mto, b, hmb, hmx⟩ := HS1.out.mrk ol0 (List.mem_of_getElem? hol)
            have hcopy := copy_any w4 B0 B0 q n c last L HSc.out.net HSc.out.rises (by omega) (ol0.n : Int) (by omega) aG aF (HG1.out.only0 o4) (HF1.out.only0 o4)
            have Hol := Lib.hid hol
            have Hmk := Lib.hid (And.intro mfr mto)
            have Hmb := Lib.hid hmb
            have Hmx := Lib.hid hmx
            have hy0 := o4.cell y0 (by simp)
            clear o4 hol mfr mto hmb hmx
            go_wp2_with fail
            refine hcopy.mono ?_
            clear hcopy
            unfold CopyEnd PutEnd
            rintro e w5 (⟨rfl, hno, -⟩ | ⟨ic, oc, hic, hin, ⟨-, rfl, o5⟩ | ⟨hn4', q', c', ol, rfl, n5, ⟨on, ofr, oto, oxs⟩, hbb, hq, o5⟩⟩)
            · exact absurd rfl (hno ol0 (List.mem_of_getElem? Hol.out))
            · have HSe := Lib.hid (HSc.out.only0 o5).more
              clear o5 hic hin
              unfold ev
              go_wp2_with fail
              refine ⟨⟨j + 1, q, n, c, last, L, pw, d, ms, by go_num, by omega, rfl, HSe⟩, ?_⟩
              show nS - ((j : Int) + 1).toNat < nS - ((j : Int)).toNat
              omega
            · obtain rfl : ic = jl := HSc.out.find hic Hol.out (by omega)
              obtain rfl : ol0 = oc := Option.some.inj (Hol.out.symm.trans hic)
              rw [Hmk.out.1] at ofr
              rw [Hmk.out.2] at oto
              rw [Hmx.out] at oxs
              clear hic hin
              obtain ⟨gm, rfl, -, -⟩ := HSc.out.own.at (by omega)
              have hmn := HSc.out.rises.1 ol0 (List.mem_of_getElem? Hol.out)
              have hgG : ¬ gm = G := (HSc.out.apart gm (by simp [blk])).2
              have hmi : (ol0.n : Int) < (last : Int) + 1 := by omega
              obtain ⟨own5, lf5, -⟩ := HSc.out.netOnly o5
              obtain ⟨cN, hcN⟩ : ∃ cN, cN = cnt L b.toNat := ⟨_, rfl⟩
              have hcell := lf5.cell (cntV_get L b)
              have hfree := lf5.free b.toNat
              rw [← hcN] at hcell
              have hcl : cN ≤ 4096 := by rw [hcN]; have h1 := cnt_le L b.toNat; have h2 := HSc.out.net.len; have h3 := HSc.out.n4; omega
              have hwc := IntWalk.i64_in ((cN : Int) + 1) (by omega)
              have hb256 := b.toNat_lt
              obtain ⟨w6, hw6⟩ : ∃ w6, w6 = (w5.setCell ⟨G, b.toNat, none⟩ (.int .i64 ((cN : Int) + 1))).alloc (.cells #[.int .u8 (b.toNat : Int)] 5) := ⟨_, rfl⟩
              have oA : Only [] (w5.setCell ⟨G, b.toNat, none⟩ (.int .i64 ((cN : Int) + 1))) w6 := by rw [hw6]; exact Only.alloc _ _
              have rA : Row w6 w5.heap.size 5 (u8s [b]) := by rw [hw6]; exact Row.newAt _ _ _ (by simp [World.setCell])
              have hsA := oA.size
              have hss : (w5.setCell ⟨G, b.toNat, none⟩ (.int .i64 ((cN : Int) + 1))).heap.size = w5.heap.size := by simp [World.setCell]
              have hbase : B0 ≤ w6.heap.size := by
                have h1 := HSc.out.net.st.lt
                have h2 := o5.size
                omega
              have ownS := (own5.only (Only.setCell w5 ⟨G, b.toNat, none⟩ (.int .i64 ((cN : Int) + 1))) (fun k hk hm => (HSc.out.apart k (ownBlk' (base := 0) hk)).2 (by simpa using hm))).only0 oA
              obtain ⟨p', d', w7, hr, own7, o7, hb7⟩ := append_owned (P := Tryd.prog) (bytes := 1) (c := 1) (q := some ⟨w5.heap.size, 0, none⟩) (m := 1) (news := u8s [b]) (t := 27) (ty := 27) w6 Tryd.underlying27 Tryd.infoU8b rfl ownS rA.rd0 rfl (by simp) (fun v hv => u8s_one hv) (by omega) (by omega) hbase
              rw [hcN] at oA
              have HS2 : Hid (CS w0 B0 G (j + 1) w7 q' (n + 1) c' (last + 1) (L ++ [ol]) p' d' (ms ++ [b])) := Lib.hid (HSc.out.put n5 on ofr oto oxs hbb hq o5 hn4' oA own7 o7 hb7)
              rw [hw6] at hr
              have Hr := Lib.hid hr
              have HcN := Lib.hid hcN

              have hcm := own5.cellAt (i := ol0.n) (v := .int .u8 (b.toNat : Int)) (by have := u8s_get (xs := ms) (i := ol0.n) (by rw [HSc.out.len]; omega); rw [this]; have h2 := Hmb.out; rw [List.getElem?_eq_getElem (by rw [HSc.out.len]; omega)] at h2; rw [Option.some.inj h2])

              clear hr n5 on ofr oto oxs hbb hq o5 hn4' own5 lf5 oA rA own7 o7 hb7 hw6 hbase hsA hss ownS hcN
              go_wp2_with (first | (at_builtin; refine wpl_append (s := .tmp 100) (x := .tmp 105) rfl rfl rfl rfl Hr.out ?_))

              refine ⟨⟨j + 1, q', n + 1, c', last + 1, L ++ [ol], p', d', ms ++ [b], by go_num, by omega, rfl, HS2⟩, ?_⟩
              show nS - ((j : Int) + 1).toNat < nS - ((j : Int)).toNat
              omega
        · skip
          go_wp2_with fail
          refine Hnth.out.mono ?_
          rintro e w4 ⟨o4, ⟨-, rfl⟩ | ⟨jl, ol0, hol, -, rfl⟩⟩
          · have HSe := Lib.hid (HS1.out.only0 o4).more
            clear o4
            go_wp2_with fail
            refine ⟨⟨j + 1, q, n, c, last, L, pw, d, ms, by go_num, by omega, rfl, HSe⟩, ?_⟩
            show nS - ((j : Int) + 1).toNat < nS - ((j : Int)).toNat
            omega
          · have HSc := Lib.hid (HS1.out.only0 o4)
            obtain ⟨mfr, mto, b, hmb, hmx⟩ := HS1.out.mrk ol0 (List.mem_of_getElem? hol)
            have Hol := Lib.hid hol
            have Hmk := Lib.hid (And.intro mfr mto)
            have Hmb := Lib.hid hmb
            have Hmx := Lib.hid hmx
            have hy0 := o4.cell y0 (by simp)
            have HG4 := Lib.hid (HG1.out.only0 o4)
            obtain ⟨gm, rfl, -, -⟩ := HSc.out.own.at (by omega)
            have hmn := HSc.out.rises.1 ol0 (List.mem_of_getElem? hol)
            have hgG : ¬ gm = G := (HSc.out.apart gm (by simp [blk])).2
            have hmi : (ol0.n : Int) < (last : Int) + 1 := by omega
            have hcm := HSc.out.own.cellAt (i := ol0.n) (v := .int .u8 (b.toNat : Int)) (by have := u8s_get (xs := ms) (i := ol0.n) (by rw [HSc.out.len]; omega); rw [this]; have h2 := hmb; rw [List.getElem?_eq_getElem (by rw [HSc.out.len]; omega)] at h2; rw [Option.some.inj h2])
            obtain ⟨cN, hcN⟩ : ∃ cN, cN = cnt L b.toNat := ⟨_, rfl⟩
            have hcell := HSc.out.left.cell (cntV_get L b)
            have hfree := HSc.out.left.free b.toNat
            rw [← hcN] at hcell
            have hcl : 1 ≤ cN ∧ cN ≤ 4096 := by rw [hcN]; have h1 := cnt_le L b.toNat; have h2 := HSc.out.net.len; have h3 := HSc.out.n4; exact ⟨cnt_pos b hol hmx, by omega⟩
            have hwc := IntWalk.i64_in ((cN : Int) - 1) (by omega)
            have hb256 := b.toNat_lt
            obtain ⟨w5, hw5⟩ : ∃ w5, w5 = w4.setCell ⟨G, b.toNat, none⟩ (.int .i64 ((cN : Int) - 1)) := ⟨_, rfl⟩
            have oS : Only [G] w4 w5 := by rw [hw5]; exact Only.setCell w4 ⟨G, b.toNat, none⟩ _
            have hN5 := HSc.out.net.only oS (by simpa using HSc.out.gap)
            have hL5 : Row w5 G 43 (cntV (L.eraseIdx jl)) := by rw [hw5, cntV_erase b hol hmx, ← hcN]; exact HSc.out.left.setCell _ _
            have hGw := HGw.out
            have hXG : ¬ wr.heap.size = G := by omega
            have hy5 := oS.cell hy0 (by simpa using hXG)
            have heg : ErrAt w5 2 aG := HG4.out.only oS (by have h1 := HG.out.lt.1; have h2 := HSc.out.b1; have h3 := Hb0.out; simp; omega) (by have h1 := HG.out.lt.2; have h2 := HSc.out.b1; have h3 := Hb0.out; simp; omega)
            have hcall := deliver_any w5 B0 B0 q n c last L hN5 HSc.out.rises (by omega) (ol0.n : Int) aG heg
            have HcN := Lib.hid hcN
            have HL5 := Lib.hid hL5
            have HoS := Lib.hid oS
            have Hw5 := Lib.hid hw5
            have HN5 := Lib.hid hN5
            have Hy5 := Lib.hid hy5
            have hcm5 := oS.cell hcm (by simpa using hgG)
            have Hcm5 := Lib.hid hcm5
            clear o4 hol mfr mto hmb hmx hcN oS hL5 hN5 heg hw5 hcm5 hGw
            rw [Hw5.out] at hy5
            go_wp2_with fail
            rw [← Hw5.out]
            refine hcall.mono ?_
            clear hcall
            unfold DelEnd ltV
            rintro e w6 (⟨rfl, hno, -⟩ | ⟨i, oc, rfl, hic, hin, n6, o6⟩)
            · exact absurd rfl (hno ol0 (List.mem_of_getElem? Hol.out))
            obtain rfl : i = jl := HSc.out.find hic Hol.out (by omega)
            obtain rfl : ol0 = oc := Option.some.inj (Hol.out.symm.trans hic)
            have hin6 : ∀ x ∈ B0 :: blk q, x ∈ netD B0 q L := fun x hx => by
              rcases List.mem_cons.1 hx with e | e
              · simp [netD, e]
              · simp [netD, e]
            have HSe := Lib.hid (HSc.out.gone n6 (HL5.out.only o6 (fun hm => HSc.out.gap (hin6 G hm))) ((HoS.out.mono (by simp)).trans (o6.mono (fun x hx => List.mem_cons_of_mem _ hx)) (fun i hi _ => hi))).more
            have hok6 := HN5.out.okAfter (List.mem_of_getElem? hic) o6
            have hrd6 := hok6.1
            have hl6 := hok6.2.2.1
            rw [Hmx.out] at hrd6 hl6
            obtain ⟨ba, oa, hqa, -⟩ := hrd6.lt (by simp [u8s])
            have hcb := hrd6
            rw [hqa] at hcb
            have hcb6 : w6.cell? ⟨ba, oa, none⟩ = some (.int .u8 (b.toNat : Int)) := hcb.cells 0 _ rfl
            have hcm6 := o6.cell Hcm5.out (fun hm => (HSc.out.apart gm (by simp [blk])).1 (hin6 gm hm))
            have hlen1 : (ol0.xs.length : Int) = 1 := by rw [Hmx.out]; rfl
            have hfr1 := Hmk.out.1
            have hto1 := Hmk.out.2
            rw [Hmx.out, hqa, hfr1, hto1]
            generalize ol0.c = oc at *
            clear n6 o6 hic hin hin6 hok6 hrd6 hcb hlen1 hfr1 hto1 hqa hl6
            obtain ⟨w7, hw7⟩ : ∃ w7, w7 = w6.alloc (.cells #[.int .i64 (ol0.n : Int), .int .i64 1, .int .i64 2, .slice (some ⟨ba, oa, none⟩) 1 oc] 37) := ⟨_, rfl⟩
            have o7 : Only [] w6 w7 := by rw [hw7]; exact Only.alloc _ _
            have r7 : Row w7 w6.heap.size 37 [.int .i64 (ol0.n : Int), .int .i64 1, .int .i64 2, .slice (some ⟨ba, oa, none⟩) 1 oc] := by rw [hw7]; exact Row.newOf _ _ _ _ rfl
            have HSe7 := Lib.hid (HSe.out.only0 o7)
            have z1 := r7.cell (i := 1) rfl
            have z2 := r7.cell (i := 2) rfl
            have z3 := r7.cell (i := 3) rfl
            have hcb7 := o7.cell hcb6 (by simp)
            have hcm7 := o7.cell hcm6 (by simp)
            clear r7 o7 HSe hcb6 hcm6
            go_upto_region 36 with (fail)
            rw [← hw7]
            clear hw7
            go_wp2_with fail
            go_quiet (fail)
            have HSq := Lib.hid (HSe7.out.only0 (Only.drewN w7 nq))
            clear HSe7
            go_wp2_with fail
            refine ⟨⟨j + 1, q, n - 1, c, last, L.eraseIdx i, some ⟨gm, 0, none⟩, d, ms, by go_num, by omega, rfl, HSq⟩, ?_⟩
            show nS - ((j : Int) + 1).toNat < nS - ((j : Int)).toNat
            omega
        · skip
          go_wp2_with fail
          refine Hnth.out.mono ?_
          rintro e w4 ⟨o4, ⟨-, rfl⟩ | ⟨jl, ol0, hol, -, rfl⟩⟩
          · have HSe := Lib.hid (HS1.out.only0 o4).more
            clear o4
            go_wp2_with fail
            refine ⟨⟨j + 1, q, n, c, last, L, pw, d, ms, by go_num, by omega, rfl, HSe⟩, ?_⟩
            show nS - ((j : Int) + 1).toNat < nS - ((j : Int)).toNat
            omega
          · have HSc := Lib.hid (HS1.out.only0 o4)
            obtain ⟨mfr, mto, b, hmb, hmx⟩ := HS1.out.mrk ol0 (List.mem_of_getElem? hol)
            have Hol := Lib.hid hol
            have Hmk := Lib.hid (And.intro mfr mto)
            have Hmb := Lib.hid hmb
            have Hmx := Lib.hid hmx
            have hy0 := o4.cell y0 (by simp)
            have HG4 := Lib.hid (HG1.out.only0 o4)
            obtain ⟨gm, rfl, -, -⟩ := HSc.out.own.at (by omega)
            have hmn := HSc.out.rises.1 ol0 (List.mem_of_getElem? hol)
            have hgG : ¬ gm = G := (HSc.out.apart gm (by simp [blk])).2
            have hmi : (ol0.n : Int) < (last : Int) + 1 := by omega
            have hcm := HSc.out.own.cellAt (i := ol0.n) (v := .int .u8 (b.toNat : Int)) (by have := u8s_get (xs := ms) (i := ol0.n) (by rw [HSc.out.len]; omega); rw [this]; have h2 := hmb; rw [List.getElem?_eq_getElem (by rw [HSc.out.len]; omega)] at h2; rw [Option.some.inj h2])
            obtain ⟨cN, hcN⟩ : ∃ cN, cN = cnt L b.toNat := ⟨_, rfl⟩
            have hcell := HSc.out.left.cell (cntV_get L b)
            have hfree := HSc.out.left.free b.toNat
            rw [← hcN] at hcell
            have hcl : 1 ≤ cN ∧ cN ≤ 4096 := by rw [hcN]; have h1 := cnt_le L b.toNat; have h2 := HSc.out.net.len; have h3 := HSc.out.n4; exact ⟨cnt_pos b hol hmx, by omega⟩
            have hwc := IntWalk.i64_in ((cN : Int) - 1) (by omega)
            have hb256 := b.toNat_lt
            obtain ⟨w5, hw5⟩ : ∃ w5, w5 = w4.setCell ⟨G, b.toNat, none⟩ (.int .i64 ((cN : Int) - 1)) := ⟨_, rfl⟩
            have oS : Only [G] w4 w5 := by rw [hw5]; exact Only.setCell w4 ⟨G, b.toNat, none⟩ _
            have hN5 := HSc.out.net.only oS (by simpa using HSc.out.gap)
            have hL5 : Row w5 G 43 (cntV (L.eraseIdx jl)) := by rw [hw5, cntV_erase b hol hmx, ← hcN]; exact HSc.out.left.setCell _ _
            have hGw := HGw.out
            have hXG : ¬ wr.heap.size = G := by omega
            have hy5 := oS.cell hy0 (by simpa using hXG)
            have heg : ErrAt w5 2 aG := HG4.out.only oS (by have h1 := HG.out.lt.1; have h2 := HSc.out.b1; have h3 := Hb0.out; simp; omega) (by have h1 := HG.out.lt.2; have h2 := HSc.out.b1; have h3 := Hb0.out; simp; omega)
            have hcall := drop_any w5 B0 B0 q n c last L hN5 HSc.out.rises (by omega) (ol0.n : Int) aG heg
            have HcN := Lib.hid hcN
            have HL5 := Lib.hid hL5
            have HoS := Lib.hid oS
            have Hw5 := Lib.hid hw5
            have HN5 := Lib.hid hN5
            have Hy5 := Lib.hid hy5
            have hcm5 := oS.cell hcm (by simpa using hgG)
            have Hcm5 := Lib.hid hcm5
            clear o4 hol mfr mto hmb hmx hcN oS hL5 hN5 heg hw5 hcm5 hGw
            rw [Hw5.out] at hy5
            go_wp2_with fail
            rw [← Hw5.out]
            refine hcall.mono ?_
            clear hcall
            rintro e w6 (⟨rfl, hno, -⟩ | ⟨i, oc, rfl, hic, hin, n6, o6⟩)
            · exact absurd rfl (hno ol0 (List.mem_of_getElem? Hol.out))
            obtain rfl : i = jl := HSc.out.find hic Hol.out (by omega)
            have hin6 : ∀ x ∈ B0 :: blk q, x ∈ netD B0 q L := fun x hx => by
              rcases List.mem_cons.1 hx with e | e
              · simp [netD, e]
              · simp [netD, e]
            have HSe := Lib.hid (HSc.out.gone n6 (HL5.out.only o6 (fun hm => HSc.out.gap (hin6 G hm))) ((HoS.out.mono (by simp)).trans (o6.mono (fun x hx => List.mem_cons_of_mem _ hx)) (fun i hi _ => hi))).more
            clear n6 o6 hic hin hin6
            go_wp2_with fail
            refine ⟨⟨j + 1, q, n - 1, c, last, L.eraseIdx i, some ⟨gm, 0, none⟩, d, ms, by go_num, by omega, rfl, HSe⟩, ?_⟩
            show nS - ((j : Int) + 1).toNat < nS - ((j : Int)).toNat
            omega
      · have hk1 : (kd == 1) = false := by simp; omega
        have hk4 : (kd == 4) = false := by simp; omega
        have hk2 : (kd == 2) = false := by simp; omega
        have hk3 : (kd == 3) = false := by simp; omega
        have HSe := Lib.hid HS1.out.more
        clear hkind hkd
        go_wp2_with fail
        refine ⟨⟨j + 1, q, n, c, last, L, pw, d, ms, by go_num, by omega, rfl, HSe⟩, ?_⟩
        show nS - ((j : Int) + 1).toNat < nS - ((j : Int)).toNat
        omega
    · obtain rfl : j = nS := by omega
      have hji : ¬ (j : Int) < (j : Int) := by omega
      obtain ⟨wf, hwf⟩ : ∃ x, x = wr := ⟨_, rfl⟩
      subst hwf
      have hn4 := HS.out.n4
      have hwt := waiting_any wf B0 B0 q n c last L HS.out.net (by omega)
      have hOX : ∀ x ∈ netD B0 q L, x < wf.heap.size := fun x hx => (HS.out.net.lt x hx).2
      have HOX := Lib.hid hOX
      have HGw := Lib.hid HS.out.left.lt
      have Hln := Lib.hid HS.out.net.len
      clear hOX
      go_wp2_with fail
      refine hwt.mono ?_
      clear hwt
      rintro e w4 ⟨pW, dW, rfl, ownW, o4⟩
      have HS4 := Lib.hid (HS.out.only0 o4)
      have HW4 := Lib.hid ownW
      clear o4 ownW
      go_wp2_with fail
      go_loopw [161] (fun a w5 => ∃ (jj : Nat), a = .int .i64 (jj : Int) ∧ jj ≤ n ∧ Hid (CS w0 B0 G j w5 q (n - jj) c last (L.drop jj) pw d ms) ∧ Hid (Own w5 wf.heap.size 3 (.slice pW n dW) (numsV L))) (fun a _ => n - (intOf a).toNat)
      case atStart => exact ⟨0, rfl, Nat.zero_le _, HS4, HW4⟩
      case round =>
        clear HS4 HW4
        obtain ⟨jj, rfl, hjj, HS5, HW5⟩ := hrel
        by_cases hlt2 : jj < n
        · have hlt2i : (jj : Int) < (n : Int) := by omega
          obtain ⟨ol, hol⟩ : ∃ o, L[jj]? = some o := ⟨_, List.getElem?_eq_getElem (by rw [Hln.out]; exact hlt2)⟩
          have hol0 : (L.drop jj)[0]? = some ol := by rw [List.getElem?_drop]; exact hol
          obtain ⟨gW, rfl, hg1, hg2⟩ := HW5.out.at (by omega)
          have hcW := HW5.out.cellAt (i := jj) (v := .int .i64 (ol.n : Int)) (by simp [numsV, hol])
          obtain ⟨mfr, mto, b, hmb, hmx⟩ := HS5.out.mrk ol (List.mem_of_getElem? hol0)
          have hcall := deliver_any wr B0 B0 q (n - jj) c last (L.drop jj) HS5.out.net HS5.out.rises (by omega) (ol.n : Int) aG (HG.out.only0 HS5.out.only)
          have Hol0 := Lib.hid hol0
          have Hmx := Lib.hid hmx
          have Hg := Lib.hid (And.intro hg1 hg2)
          clear hol hol0 hmx hmb mfr mto hg1 hg2
          go_wp2_with fail
          refine hcall.mono ?_
          clear hcall
          unfold DelEnd ltV
          rintro e w6 (⟨rfl, hno, -⟩ | ⟨i, oc, rfl, hic, hin, n6, o6⟩)
          · exact absurd rfl (hno ol (List.mem_of_getElem? Hol0.out))
          obtain rfl : i = 0 := HS5.out.find hic Hol0.out (by omega)
          obtain rfl : ol = oc := Option.some.inj (Hol0.out.symm.trans hic)
          have hin6 : ∀ x ∈ B0 :: blk q, x ∈ netD B0 q (L.drop jj) := fun x hx => by
            rcases List.mem_cons.1 hx with e | e
            · simp [netD, e]
            · simp [netD, e]
          have hBq : ∀ x ∈ B0 :: blk q, x < wf.heap.size := fun x hx => HOX.out x (by
            rcases List.mem_cons.1 hx with e | e
            · simp [netD, e]
            · simp [netD, e])
          have hok6 := HS5.out.net.okAfter (List.mem_of_getElem? hic) o6
          have hrd6 := hok6.1
          rw [Hmx.out] at hrd6
          obtain ⟨ba, oa, hqa, -⟩ := hrd6.lt (by simp [u8s])
          have hcb := hrd6
          rw [hqa] at hcb
          have hcb6 : w6.cell? ⟨ba, oa, none⟩ = some (.int .u8 (b.toNat : Int)) := hcb.cells 0 _ rfl
          obtain ⟨own6, lf6, -⟩ := HS5.out.netOnly o6
          obtain ⟨cN, hcN⟩ : ∃ cN, cN = cnt (L.drop jj) b.toNat := ⟨_, rfl⟩
          have hcl : 1 ≤ cN ∧ cN ≤ 4096 := by rw [hcN]; have h1 := cnt_le (L.drop jj) b.toNat; have h2 := HS5.out.net.len; have h3 := HS5.out.n4; exact ⟨cnt_pos b hic Hmx.out, by omega⟩
          have hwc := IntWalk.i64_in ((cN : Int) - 1) (by omega)
          have hb256 := b.toNat_lt
          obtain ⟨oc2, hoc2⟩ : ∃ x, x = ol.c := ⟨_, rfl⟩
          rw [Hmx.out, hqa, ← hoc2]
          obtain ⟨w7, hw7⟩ : ∃ w7, w7 = w6.alloc (.cells #[.int .i64 (ol.n : Int), .int .i64 ol.fr, .int .i64 ol.to, .slice (some ⟨ba, oa, none⟩) 1 oc2] 37) := ⟨_, rfl⟩
          have o7 : Only [] w6 w7 := by rw [hw7]; exact Only.alloc _ _
          have r7 : Row w7 w6.heap.size 37 [.int .i64 (ol.n : Int), .int .i64 ol.fr, .int .i64 ol.to, .slice (some ⟨ba, oa, none⟩) 1 oc2] := by rw [hw7]; exact Row.newOf _ _ _ _ rfl
          have z3 := r7.cell (i := 3) rfl
          have hcb7 := o7.cell hcb6 (by simp)
          have hcell := (lf6.only0 o7).cell (cntV_get (L.drop jj) b)
          have hfree := (lf6.only0 o7).free b.toNat
          rw [← hcN] at hcell
          obtain ⟨w8, hw8⟩ : ∃ w8, w8 = w7.setCell ⟨G, b.toNat, none⟩ (.int .i64 ((cN : Int) - 1)) := ⟨_, rfl⟩
          have oS : Only [G] w7 w8 := by rw [hw8]; exact Only.setCell w7 ⟨G, b.toNat, none⟩ _
          have hL8 : Row w8 G 43 (cntV ((L.drop jj).eraseIdx 0)) := by rw [hw8, cntV_erase b hic Hmx.out, ← hcN]; exact (lf6.only0 o7).setCell _ _
          have hn8 := (n6.only0 o7).only oS (fun x hx hm => by
            obtain rfl := List.mem_singleton.1 hx
            refine HS5.out.gap ?_
            unfold netD at hm ⊢
            rcases List.mem_cons.1 hm with e | hm
            · simp [e]
            · rcases List.mem_append.1 hm with hm | hm
              · simp [hm]
              · exact List.mem_cons_of_mem _ (List.mem_append_right _ (bbs_erase.subset hm)))
          have hO8 : Only (G :: B0 :: blk q) wr w8 := ((o6.mono (fun x hx => List.mem_cons_of_mem _ hx)).trans0 o7).trans (oS.mono (by simp)) (fun i hi _ => hi)
          have hgone := HS5.out.gone hn8 hL8 hO8
          rw [show (L.drop jj).eraseIdx 0 = L.drop (jj + 1) by rw [List.eraseIdx_zero, List.tail_drop], show n - jj - 1 = n - (jj + 1) by omega] at hgone
          have HS8 := Lib.hid hgone
          have HW8 : Hid (Own w8 wf.heap.size 3 (.slice (some ⟨gW, 0, none⟩) n dW) (numsV L)) := Lib.hid (HW5.out.only hO8 (fun k hk hm => by
            have h1 := (HW5.out.lt k hk).1
            have h2 := HGw.out
            rcases List.mem_cons.1 hm with e | hm
            · omega
            · have := hBq k hm
              omega))
          rw [hw8, hw7] at HS8 HW8
          rw [hw7] at z3 hcb7 hcell hfree
          clear hic hin n6 o6 hin6 hBq hok6 hrd6 hcb hcb6 own6 lf6 hcN hoc2 o7 r7 oS hL8 hn8 hO8 hgone hw8 hw7 hqa
          go_wp2_with fail
          refine ⟨⟨jj + 1, by go_num, by omega, HS8, HW8⟩, ?_⟩
          show n - ((jj : Int) + 1).toNat < n - ((jj : Int)).toNat
          omega
        · obtain rfl : jj = n := by omega
          have hlt2i : ¬ (jj : Int) < (jj : Int) := by omega
          have hlf := HS5.out.left
          rw [List.drop_of_length_le (by rw [Hln.out]; exact Nat.le_refl _)] at hlf
          have hld := hlf.loadAt (P := Tryd.prog) Tryd.underlying43 (by rw [cntV_len]; kernel_rfl)
          rw [cntV_zero] at hld
          have Hld := Lib.hid hld
          clear hlf hld
          go_upto_region 47 with (fail)
          have heq := eqSame wr Tryd.zeroCells43 (by kernel_rfl)
          have heq2 := eqSameIn wr Tryd.zeroCells43 (by kernel_rfl)
          have hgd : Tryd.prog.eqGuardType Tryd.prog.depth 43 = false := by kernel_rfl
          go_wp2_with (first | ((with_reducible show wpList _ _ _ _ _ _); refine wpl_load (ty := 43) (x := .tmp 4) rfl rfl rfl Hld.out ?_))
          go_ret
          exact ⟨rfl, HS5.out.only⟩
end Go.Proofs.YtlgcclhepegggaaDoor
