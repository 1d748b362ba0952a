/- The walk of bollardlaw14.NetOrders. -/
import Derived.Test.YtlgcclhepegggaaDoorNetOrdersL
import Derived.Test.YtlgcclhepegggaaDoorScript14
import Derived.Test.YtlgcclhepegggaaDoorRegion5
import Derived.Test.YtlgcclhepegggaaDoorFresh
import Derived.Deep.DeepCutAuto
import Derived.Deep.Cut
import Derived.Deep.CutBlock
set_option linter.unusedVariables false
set_option maxRecDepth 100000
namespace Go.Proofs.YtlgcclhepegggaaDoor
open Go.RowKit

def INil (base : Nat) : Value → World → Prop := fun v w => ∃ p, v = .slice p 0 0 ∧ Own w base 3 (.slice p 0 0) []
theorem INil.stable (base : Nat) : Stable (Only []) (INil base) := fun _ _ _ ⟨p, e, h⟩ ho => ⟨p, e, h.only0 ho⟩
def IO (base n : Nat) (vs : List Value) : Value → World → Prop := fun v w => ∃ p c, v = .slice p n c ∧ Own w base 3 (.slice p n c) vs
theorem IO.stable (base n : Nat) (vs : List Value) : Stable (Only []) (IO base n vs) := fun _ _ _ ⟨p, c, e, h⟩ ho => ⟨p, c, e, h.only0 ho⟩
/-- a slice that reads so in every world behind -/
def RdO (w0 : World) (n c : Nat) (vs : List Value) : Value → World → Prop := fun v _ => ∃ q, v = .slice q n c ∧ q ≠ none ∧ ∀ w, Only [] w0 w → Rd w q vs
theorem RdO.any (w0 : World) (n c : Nat) (vs : List Value) {R : World → World → Prop} : Stable R (RdO w0 n c vs) := fun _ _ _ h _ => h
theorem ownBlkLt {w : World} {base n c : Nat} {p : Option Addr} {vs : List Value} (h : Own w base 3 (.slice p n c) vs) : ∀ x ∈ blk p, base ≤ x := fun x hx => by
  cases p with
  | none => cases hx
  | some a => simp [blk] at hx; subst hx; exact (h.lt _ rfl).1

set_option maxHeartbeats 16000000 in
theorem netOrders_any (w0 : World) (p : Option Addr) (nS cS : Nat) (os : List Op14) (hl : os.length = nS) (hn : nS ≤ cS) (hc : cS ≤ 2199023255552) (hA : Acts14 w0 p os) (aG aF aN : Addr) (eG : ErrAt w0 2 aG) (eF : ErrAt w0 10 aF) (eN : ErrAt w0 3 aN) :
    Calls Tryd.prog 3 #[.slice p nS cS] w0 fun e w' => e = .returned (.bool true) ∧ Only [] w0 w' := by
  have hal := alive14_any w0 aG aF eG eF
  have HG := Lib.hid eG
  have HF := Lib.hid eF
  have HN := Lib.hid eN
  have HA := Lib.hid hA
  have Hl := Lib.hid hl
  clear eG eF eN hA hl
  go_enter Tryd.func3, Tryd.ntmps3
  go_wp2_with fail
  (with_reducible refine (hal).mono ?_)
  rintro e w1 ⟨rfl, o1⟩
  clear hal
  have hnew := new_any w1
  have HO1 := Lib.hid o1
  clear o1
  go_wp2_with fail
  (with_reducible refine (hnew).mono ?_)
  rintro e w2 ⟨rfl, hnet, o2⟩
  clear hnew
  have hb0 : w0.heap.size ≤ w1.heap.size := HO1.out.size
  obtain ⟨w3, hw3⟩ : ∃ w3, w3 = w2.alloc (.cells #[] 3) := ⟨_, rfl⟩
  have o3 : Only [] w2 w3 := by rw [hw3]; exact Only.alloc _ _
  have own3 : Own w3 w2.heap.size 3 (.slice (some ⟨w2.heap.size, 0, none⟩) 0 0) [] := by rw [hw3]; exact Own.ofRow (vs := []) (rest := []) (Nat.le_refl _) (Row.new w2 _ []) rfl (by omega)
  have hlt2 := hnet.st.lt
  have HS : Hid (OS w0 w1.heap.size 0 w3 none 0 0 0 [] (some ⟨w2.heap.size, 0, none⟩) 0) := Lib.hid ⟨hnet.only0 o3, ⟨by simp, by simp⟩, own3.weaken (by omega), by simp [blk, netD, bbs]; omega, by omega, by omega, (HO1.out.trans0 o2).trans0 o3, hb0⟩
  generalize hBe : w1.heap.size = B0 at HS
  have HBe := Lib.hid hBe
  rw [hw3] at HS
  clear hBe hnet o2 o3 own3 hlt2 hb0 hw3
  go_wp2_with fail
  go_loopw [22, 4, 5] (fun a v l wr => ∃ (j : Nat) (q : Option Addr) (n c last : Nat) (L : List Lt) (p : Option Addr) (d : Nat), a = .int .i64 (j : Int) ∧ j ≤ nS ∧ v = .slice p n d ∧ l = .int .i64 (last : Int) ∧ Hid (OS w0 B0 j wr q n c last L p d)) (fun a _ _ _ => nS - (intOf a).toNat)
  case atStart => exact ⟨0, none, 0, 0, 0, [], _, 0, rfl, Nat.zero_le _, rfl, rfl, HS⟩
  case round =>
    obtain ⟨j, q, n, c, last, L, pw, d, rfl, hj, rfl, rfl, HS⟩ := hrel
    by_cases hlt : j < nS
    · have hji : (j : Int) < (nS : Int) := by omega
      obtain ⟨o, ho⟩ : ∃ o, os[j]? = some o := ⟨_, List.getElem?_eq_getElem (by rw [Hl.out]; exact hlt)⟩
      obtain ⟨-, -, -, hok0, -⟩ := HA.out j o ho
      obtain ⟨b, off, rfl, hok, c0, c1, c2, c3, c4, c5⟩ := (HA.out.only0 HS.out.only) j o ho
      have HBs : Hid (∀ a, o.bs ≠ [] → o.p = some a → a.block ≠ B0) := Lib.hid (fun a hne ha e => by
        obtain ⟨b', off', e1, h1⟩ := (hok0.2.2.2.2.2.2.2.2.2).lt (fun e => hne (by unfold u8s at e; exact List.map_eq_nil_iff.1 e))
        rw [ha] at e1
        obtain rfl := Option.some.inj e1
        have := HS.out.b0
        dsimp only at e
        omega)
      clear hok0
      obtain ⟨wo, hwo⟩ : ∃ wo, wo = wr.alloc (.cells #[.int .i64 o.kind, .int .i64 o.which, .int .i64 o.fr, .int .i64 o.to, .int .i64 o.n, .slice o.p o.m o.c] 29) := ⟨_, rfl⟩
      have oO : Only [] wr wo := by rw [hwo]; exact Only.alloc _ _
      have rO : Row wo wr.heap.size 29 [.int .i64 o.kind, .int .i64 o.which, .int .i64 o.fr, .int .i64 o.to, .int .i64 o.n, .slice o.p o.m o.c] := by rw [hwo]; exact Row.newOf _ _ _ _ rfl
      have HS1 := Lib.hid (HS.out.only0 oO)
      have HRO := Lib.hid rO
      have Hok := Lib.hid (hok.only0 oO)
      have HOO := Lib.hid (HS.out.only.trans0 oO)
      clear ho hok oO rO
      obtain ⟨kd, wh, fr, dst, no, bp, bm, bc, bs⟩ := o
      dsimp only at *
      go_upto_block 2 with fail
      rw [← hwo]
      clear hwo c0 c1 c2 c3 c4 c5
      go_cut [4, 5] (fun v l wx => ∃ (q : Option Addr) (n c last : Nat) (L : List Lt) (p : Option Addr) (d : Nat), v = .slice p n d ∧ l = .int .i64 (last : Int) ∧ Hid (OS w0 B0 (j + 1) wx q n c last L p d))
      case first =>
        have y0 := HRO.out.cell (i := 0) rfl
        have y2 := HRO.out.cell (i := 2) rfl
        have y3 := HRO.out.cell (i := 3) rfl
        have y4 := HRO.out.cell (i := 4) rfl
        have y5 := HRO.out.cell (i := 5) rfl
        have hn4 := HS1.out.n4
        have hlj := HS1.out.lj
        have hjn : j < 2199023255552 := by omega
        have HG1 := Lib.hid (HG.out.only0 HOO.out)
        have HF1 := Lib.hid (HF.out.only0 HOO.out)
        have HN1 := Lib.hid (HN.out.only0 HOO.out)
        obtain ⟨hk0, -, hfr, hto, hno, hbl, hbc, hbc2, hbn, hbr⟩ := Hok.out
        dsimp only at hk0 hfr hto hno hbl hbc hbc2 hbn hbr
        have Hbl := Lib.hid hbl
        have Hbn := Lib.hid hbn
        have Hbr := Lib.hid hbr
        clear hbl hbn hbr Hok
        by_cases hkind : kd = 1 ∨ kd = 4
        · rcases hkind with rfl | rfl
          · by_cases hg : GoodNo fr dst
            · have hsend := send_ok wo B0 B0 q n c last L HS1.out.net fr dst hg bp bm bc bs Hbl.out (by omega) Hbn.out Hbr.out (fun h1 a h2 => HBs.out a h1 h2) (by omega) aF HF1.out
              have Hg := Lib.hid hg
              clear hg
              go_wp2_with fail
              refine hsend.mono ?_
              clear hsend
              unfold PutEnd
              rintro e w4 (⟨-, rfl, o4⟩ | ⟨hn4', q', c', ol, rfl, n4, ⟨on, -, -, -⟩, hbb, hq, o4⟩)
              · have Ho4 := Lib.hid o4
                clear o4
                unfold ev
                go_wp2_with fail
                go_meet
                exact ⟨q, n, c, last, L, pw, d, rfl, rfl, Lib.hid (HS1.out.only0 Ho4.out).more⟩
              · obtain ⟨own4, of4⟩ := HS1.out.netOnly o4
                have hbase : B0 ≤ w4.heap.size := by
                  have h1 := HS1.out.net.st.lt
                  have h2 := o4.size
                  omega
                obtain ⟨w5, hw5⟩ : ∃ w5, w5 = w4.alloc (.cells #[.int .i64 ((last + 1 : Nat) : Int)] 3) := ⟨_, rfl⟩
                have oA : Only [] w4 w5 := by rw [hw5]; exact Only.alloc _ _
                have rA : Row w5 w4.heap.size 3 [.int .i64 ((last + 1 : Nat) : Int)] := by rw [hw5]; exact Row.newOf _ _ _ _ rfl
                have hsA := oA.size
                obtain ⟨p', d', w6, hr, own6, o6, hb6⟩ := append_owned (P := Tryd.prog) (bytes := 8) (c := 1) (q := some ⟨w4.heap.size, 0, none⟩) (m := 1) (news := [.int .i64 ((last + 1 : Nat) : Int)]) (t := 26) (ty := 26) w5 Tryd.underlying26 Tryd.infoI64 rfl (own4.only0 oA) rA.rd0 rfl (by simp) (fun v hv => by obtain rfl := List.mem_singleton.1 hv; rfl) (by omega) (by omega) (by omega)
                rw [hw5] at hr
                have Hr := Lib.hid hr
                have HS2 := Lib.hid (HS1.out.put n4 on hbb hq o4 hn4' oA own6 o6 hb6)
                have hlw : IntKind.i64.wrap ((last : Int) + 1) = ((last + 1 : Nat) : Int) := by rw [IntWalk.i64_in _ (by omega)]; omega
                clear hr n4 on hbb hq o4 own4 of4 oA rA own6 o6 hb6 hw5 hbase hsA
                go_wp2_with (first | (at_builtin; refine wpl_append (s := .tmp 59) (x := .tmp 61) rfl rfl rfl rfl Hr.out ?_))
                go_meet
                exact ⟨q', n + 1, c', last + 1, L ++ [ol], p', d', rfl, rfl, HS2⟩
            · have hsend := send_bad wo B0 fr dst hg bp bm bc aN HN1.out
              have Hg := Lib.hid hg
              clear hg
              go_wp2_with fail
              (with_reducible refine (hsend).mono ?_)
              rintro e w4 ⟨rfl, o4⟩
              have Ho4 := Lib.hid o4
              clear o4 hsend
              unfold ev
              go_wp2_with fail
              go_meet
              exact ⟨q, n, c, last, L, pw, d, rfl, rfl, Lib.hid (HS1.out.only0 Ho4.out).more⟩
          · have hcopy := copy_any wo B0 B0 q n c last L HS1.out.net HS1.out.rises (by omega) no (by omega) aG aF HG1.out HF1.out
            go_wp2_with fail
            refine hcopy.mono ?_
            clear hcopy
            unfold CopyEnd PutEnd
            rintro e w4 (⟨rfl, -, o4⟩ | ⟨ic, oc, -, -, ⟨-, rfl, o4⟩ | ⟨hn4', q', c', ol, rfl, n4, ⟨on, -, -, -⟩, hbb, hq, o4⟩⟩)
            · have Ho4 := Lib.hid o4
              clear o4
              unfold ev
              go_wp2_with fail
              go_meet
              exact ⟨q, n, c, last, L, pw, d, rfl, rfl, Lib.hid (HS1.out.only0 Ho4.out).more⟩
            · have Ho4 := Lib.hid o4
              clear o4
              unfold ev
              go_wp2_with fail
              go_meet
              exact ⟨q, n, c, last, L, pw, d, rfl, rfl, Lib.hid (HS1.out.only0 Ho4.out).more⟩
            · obtain ⟨own4, of4⟩ := HS1.out.netOnly o4
              have hbase : B0 ≤ w4.heap.size := by
                have h1 := HS1.out.net.st.lt
                have h2 := o4.size
                omega
              obtain ⟨w5, hw5⟩ : ∃ w5, w5 = w4.alloc (.cells #[.int .i64 ((last + 1 : Nat) : Int)] 3) := ⟨_, rfl⟩
              have oA : Only [] w4 w5 := by rw [hw5]; exact Only.alloc _ _
              have rA : Row w5 w4.heap.size 3 [.int .i64 ((last + 1 : Nat) : Int)] := by rw [hw5]; exact Row.newOf _ _ _ _ rfl
              have hsA := oA.size
              obtain ⟨p', d', w6, hr, own6, o6, hb6⟩ := append_owned (P := Tryd.prog) (bytes := 8) (c := 1) (q := some ⟨w4.heap.size, 0, none⟩) (m := 1) (news := [.int .i64 ((last + 1 : Nat) : Int)]) (t := 26) (ty := 26) w5 Tryd.underlying26 Tryd.infoI64 rfl (own4.only0 oA) rA.rd0 rfl (by simp) (fun v hv => by obtain rfl := List.mem_singleton.1 hv; rfl) (by omega) (by omega) (by omega)
              rw [hw5] at hr
              have Hr := Lib.hid hr
              have HS2 := Lib.hid (HS1.out.put n4 on hbb hq o4 hn4' oA own6 o6 hb6)
              have hlw : IntKind.i64.wrap ((last : Int) + 1) = ((last + 1 : Nat) : Int) := by rw [IntWalk.i64_in _ (by omega)]; omega
              clear hr n4 on hbb hq o4 own4 of4 oA rA own6 o6 hb6 hw5 hbase hsA
              go_wp2_with (first | (at_builtin; refine wpl_append (s := .tmp 59) (x := .tmp 61) rfl rfl rfl rfl Hr.out ?_))
              go_meet
              exact ⟨q', n + 1, c', last + 1, L ++ [ol], p', d', rfl, rfl, HS2⟩
        · by_cases hkind2 : kd = 2 ∨ kd = 3
          · have hdel := deliver_any wo B0 B0 q n c last L HS1.out.net HS1.out.rises (by omega) no aG HG1.out
            have hdrop := drop_any wo B0 B0 q n c last L HS1.out.net HS1.out.rises (by omega) no aG HG1.out
            have Hdel := Lib.hid hdel
            have Hdrop := Lib.hid hdrop
            have hk1 : (kd == 1) = false := by simp; omega
            have hk4 : (kd == 4) = false := by simp; omega
            clear hdel hdrop hkind
            rcases hkind2 with rfl | rfl
            · skip
              go_wp2_with fail
              go_loopw [68, 10] (fun a b w2 => ∃ (jj : Nat) (at1 : Int), a = .int .i64 (jj : Int) ∧ b = .int .i64 at1 ∧ jj ≤ n ∧ w2 = wo ∧ Hid ((at1 = -1 ∧ ∀ k o, k < jj → L[k]? = some o → (o.n : Int) ≠ no) ∨ (∃ (k : Nat) (o : Lt), at1 = (k : Int) ∧ k < jj ∧ L[k]? = some o ∧ (o.n : Int) = no))) (fun a _ _ => n - (intOf a).toNat)
              case atStart => exact ⟨0, -1, rfl, rfl, Nat.zero_le _, rfl, Lib.hid (.inl ⟨rfl, fun k o h => absurd h (Nat.not_lt_zero _)⟩)⟩
              case round =>
                obtain ⟨jj, at1, rfl, rfl, hjj, hwr, Hat⟩ := hrel
                have hwr' := hwr.symm
                subst hwr'
                clear hwr
                by_cases hlt2 : jj < n
                · have hlt2i : (jj : Int) < (n : Int) := by omega
                  obtain ⟨ol, hol⟩ : ∃ o, L[jj]? = some o := ⟨_, List.getElem?_eq_getElem (by rw [HS1.out.net.len]; exact hlt2)⟩
                  obtain ⟨g, rfl, -, -⟩ := HS1.out.own.at (by omega)
                  have hcell := HS1.out.own.cellAt (i := jj) (v := .int .i64 (ol.n : Int)) (by simp [numsV, hol])
                  have Hol := Lib.hid hol
                  clear hol
                  by_cases he : (ol.n : Int) = no
                  · have heb : ((ol.n : Int) == no) = true := by simp [he]
                    have He := Lib.hid he
                    clear he
                    go_wp2_with fail
                    refine ⟨⟨jj + 1, jj, by go_num, rfl, by omega, by trivial, Lib.hid (.inr ⟨jj, ol, rfl, by omega, Hol.out, He.out⟩)⟩, ?_⟩
                    show n - ((jj : Int) + 1).toNat < n - ((jj : Int)).toNat
                    omega
                  · have heb : ((ol.n : Int) == no) = false := by simp [he]
                    have He := Lib.hid he
                    clear he
                    go_wp2_with fail
                    refine ⟨⟨jj + 1, at1, by go_num, rfl, by omega, by trivial, Lib.hid ?_⟩, ?_⟩
                    · rcases Hat.out with ⟨e1, h1⟩ | ⟨k, o, e1, h1, h2, h3⟩
                      · refine .inl ⟨e1, fun k o hk ho => ?_⟩
                        by_cases e : k = jj
                        · subst e
                          obtain rfl := Option.some.inj (ho.symm.trans Hol.out)
                          exact He.out
                        · exact h1 k o (by omega) ho
                      · exact .inr ⟨k, o, e1, by omega, h2, h3⟩
                    · show n - ((jj : Int) + 1).toNat < n - ((jj : Int)).toNat
                      omega
                · obtain rfl : jj = n := by omega
                  have hlt2i : ¬ (jj : Int) < (jj : Int) := by omega
                  rcases Hat.out with ⟨rfl, hall⟩ | ⟨k, ol, rfl, hkn, hok, hon⟩
                  · have Hall := Lib.hid hall
                    clear hall
                    go_wp2_with fail
                    refine Hdel.out.mono ?_
                    rintro e w4 (⟨rfl, -, o4⟩ | ⟨i, o5, rfl, hio, hin, -, -⟩)
                    · have HS2 := Lib.hid (HS1.out.only0 o4).more
                      clear o4
                      unfold ev
                      go_wp2_with fail
                      go_meet
                      exact ⟨q, jj, c, last, L, pw, d, rfl, rfl, HS2⟩
                    · have := HS1.out.net.len
                      exact absurd hin (Hall.out i o5 (by have := (List.getElem?_eq_some_iff.1 hio).1; omega) hio)
                  · have Hok2 := Lib.hid hok
                    have Hon := Lib.hid hon
                    have hki : (0 : Int) ≤ (k : Int) := by omega
                    clear hok hon
                    go_wp2_with fail
                    refine Hdel.out.mono ?_
                    rintro e w4 (⟨rfl, hno2, -⟩ | ⟨i, o5, rfl, hio, hin, n4, o4⟩)
                    · exact absurd Hon.out (hno2 ol (List.mem_of_getElem? Hok2.out))
                    obtain rfl : i = k := HS1.out.find hio Hok2.out (by have := Hon.out; omega)
                    obtain ⟨g, rfl, hg1, hg2⟩ := HS1.out.own.at (by omega)
                    obtain ⟨own4, of4⟩ := HS1.out.netOnly o4
                    have Hown4 := Lib.hid own4
                    have Hn4 := Lib.hid n4
                    have Ho4 := Lib.hid o4
                    have hd4 := own4.view.2.2.2.1
                    have HLt : Hid (∀ w, Only [] w4 w → Rd w (some ⟨g, 0, none⟩) ((numsV L).take i)) := Lib.hid fun w ho => (own4.view.1.only0 ho).take i
                    have hln : (numsV L).length = jj := own4.view.2.1
                    have HSl : Hid (∀ a, RdO w4 (jj - (i + 1)) (d - (i + 1)) ((numsV L).drop (i + 1)) (.slice (if d = i + 1 then some ⟨g, 0, none⟩ else some ⟨g, i + 1, none⟩) (jj - (i + 1)) (d - (i + 1))) a) := Lib.hid fun _ => ⟨_, rfl, by split <;> simp, fun w ho => by
                      by_cases e : d = i + 1
                      · rw [List.drop_of_length_le (by omega)]
                        exact Rd.nil _ _
                      · rw [if_neg e]
                        simpa using (own4.view.1.only0 ho).drop (i + 1)⟩
                    have Hln := Lib.hid hln
                    have h1c : Hid (∀ u ∈ numsV L, u.oneCell' = true) := Lib.hid (fun u hu => by
                      obtain ⟨x, -, rfl⟩ := List.mem_map.1 hu
                      rfl)
                    have hd63 := own4.view.2.2.2.2.1
                    clear hio hin n4 own4 o4 of4 Hok2 Hon hg1 hg2 hln
                    go_wp2_with fail
                    have hRr : ∀ a, Below w4.heap.size a a := fun a => Below.refl _ _
                    have hRt : ∀ a b e, Below w4.heap.size a b → Below w4.heap.size b e → Below w4.heap.size a e := fun a b e h h2 => h.trans h2
                    have hRd : Below w4.heap.size w4 w4.drew := (Only.drew _).below
                    have hRs : ∀ j w, DirtR [(9, Below w4.heap.size)] j w w := DirtR.refl (by intro x hx w; obtain rfl := List.mem_singleton.1 hx; exact Below.refl _ _)
                    -- <<R39
                    refine wp_region_rg5 (Below w4.heap.size) (DirtR [(9, Below w4.heap.size)]) [[], [(4, none)], [(10, none)], [(101, some 1), (102, some 0)], [(100, some 3), (103, some 0)], [(4, none)], [(10, none)], [(106, some 0)], [(105, some 2), (107, some 0)], [(104, some 4), (108, some 0)], [(109, some 0)]] [(4, 0)] [none, none, none, none, some 4, none, none, none, none, none, none, none, none, none, none, none, none, none, none, none, none, none, none, none, none, none, none, none, none, none, none, none, none, none, none, none, none, none, none, none, none, none, none, none, none, none, none, none, none, none, none, none, none, none, none, none, none, none, none, none, none, none, none, none, none, none, none, none, none, none, none, none, none, none, none, none, none, none, none, none, none, none, none, none, none, none, none, none, none, none, none, none, none, none, none, none, none, none, none, none, some 100, some 101, some 102, some 103, some 104, some 105, some 106, some 107, some 108, some 109, none, none, none, none, none, none] (by kernel_rfl) rfl (by kernel_rfl) hRr hRt hRs hRd (by kernel_rfl) ?_
                    -- 0: s100 := buildSlice 26 0 #[]
                    refine ⟨INil w4.heap.size, stands5_of (INil.stable _) (by intro x hx hk; obtain rfl := List.mem_singleton.1 hx; exact Bool.noConfusion (hk.symm.trans (by kernel_rfl : _ = true))), fun a w hR hf => ?_, ?_⟩
                    · refine rg_plain rfl fun K hK => ?_
                      go_simp
                      exact hK _ _ ⟨_, rfl, Own.ofRow (vs := []) (rest := []) hR.size (Row.new w _ []) rfl (by omega)⟩ ⟨(Only.alloc w _).below.mono hR.size, Only.alloc w _⟩
                    -- 1: s101 := move t4
                    apply rgu_ev
                    · intro a w hR hf
                      obtain ⟨e4, -⟩ := hf
                      replace e4 : a.tmps.getD 4 undef = _ := e4
                      refine rg_plain rfl fun K hK => ?_
                      go_simp
                      exact hK _ _ rfl ⟨hRr _, hRs _ _⟩
                    -- 2: s102 := move t10
                    apply rgu_ev
                    · intro a w hR hf
                      obtain ⟨e10, -⟩ := hf
                      replace e10 : a.tmps.getD 10 undef = _ := e10
                      refine rg_plain rfl fun K hK => ?_
                      go_simp
                      exact hK _ _ rfl ⟨hRr _, hRs _ _⟩
                    -- 3: s103 := slice 26 t101 none (some t102) none
                    apply rgu_ev
                    · intro a w hR hf
                      obtain ⟨e101, e102, -⟩ := hf
                      replace e101 : a.tmps.getD 101 undef = _ := e101
                      replace e102 : a.tmps.getD 102 undef = _ := e102
                      refine rg_plain rfl fun K hK => ?_
                      have hd1 : (i : Int) ≤ (d : Int) := by omega
                      go_simp
                      exact hK _ _ rfl ⟨hRr _, hRs _ _⟩
                    -- 4: s104 := call { builtin append, args := #[t100, t103], #[26, 26] }
                    refine ⟨IO w4.heap.size i ((numsV L).take i), stands5_of (IO.stable _ _ _) (by intro x hx hk; obtain rfl := List.mem_singleton.1 hx; exact Bool.noConfusion (hk.symm.trans (by kernel_rfl : _ = true))), fun a w hR hf => ?_, ?_⟩
                    · obtain ⟨e100, e103, -⟩ := hf
                      replace e100 : INil w4.heap.size (a.tmps.getD 100 undef) w := e100
                      replace e103 : a.tmps.getD 103 undef = _ := e103
                      refine rg_plain rfl fun K hK => ?_
                      obtain ⟨q100, e100, o100⟩ := e100
                      obtain ⟨p', c', w5, hr, o5, h5⟩ := append_fresh (P := Tryd.prog) (bytes := 8) (t := 26) (ty := 26) (c := d) (m := i) (q := some ⟨g, 0, none⟩) (news := (numsV L).take i) w Tryd.underlying26 Tryd.infoI64 rfl o100 (HLt.out w (Only.ofBelow hR)) (by rw [List.length_take, Hln.out]; omega) (by simp) (fun u hu => h1c.out u (List.mem_of_mem_take hu)) (by omega) (by omega) hR.size
                      refine rg_append (s := .tmp 100) (x := .tmp 103) rfl e100 e103 hr ?_
                      exact hK _ _ ⟨p', c', rfl, o5⟩ ⟨h5.below.mono hR.size, h5⟩
                    -- 5: s105 := move t4
                    apply rgu_ev
                    · intro a w hR hf
                      obtain ⟨e4, -⟩ := hf
                      replace e4 : a.tmps.getD 4 undef = _ := e4
                      refine rg_plain rfl fun K hK => ?_
                      go_simp
                      exact hK _ _ rfl ⟨hRr _, hRs _ _⟩
                    -- 6: s106 := move t10
                    apply rgu_ev
                    · intro a w hR hf
                      obtain ⟨e10, -⟩ := hf
                      replace e10 : a.tmps.getD 10 undef = _ := e10
                      refine rg_plain rfl fun K hK => ?_
                      go_simp
                      exact hK _ _ rfl ⟨hRr _, hRs _ _⟩
                    -- 7: s107 := binOp Binadd 3 t106 (const (1:i64)) 3
                    apply rgu_ev
                    · intro a w hR hf
                      obtain ⟨e106, -⟩ := hf
                      replace e106 : a.tmps.getD 106 undef = _ := e106
                      refine rg_plain rfl fun K hK => ?_
                      have hw := IntWalk.i64_in ((i : Int) + 1) (by omega)
                      go_simp
                      exact hK _ _ rfl ⟨hRr _, hRs _ _⟩
                    -- 8: s108 := slice 26 t105 (some t107) none none
                    refine ⟨RdO w4 (jj - (i + 1)) (d - (i + 1)) ((numsV L).drop (i + 1)), stands5_of (RdO.any _ _ _ _) (by intro x hx hk; exact RdO.any _ _ _ _), fun a w hR hf => ?_, ?_⟩
                    · obtain ⟨e105, e107, -⟩ := hf
                      replace e105 : a.tmps.getD 105 undef = _ := e105
                      replace e107 : a.tmps.getD 107 undef = _ := e107
                      refine rg_plain rfl fun K hK => ?_
                      have hd1 : (i : Int) + 1 ≤ (jj : Int) := by omega
                      go_simp
                      exact hK _ _ (HSl.out w) ⟨hRr _, hRs _ _⟩
                    -- 9: s109 := call { builtin append, args := #[t104, t108], #[26, 26] }
                    refine ⟨IO w4.heap.size (i + (jj - (i + 1))) ((numsV L).take i ++ (numsV L).drop (i + 1)), stands5_of (IO.stable _ _ _) (by intro x hx hk; obtain rfl := List.mem_singleton.1 hx; exact Bool.noConfusion (hk.symm.trans (by kernel_rfl : _ = true))), fun a w hR hf => ?_, ?_⟩
                    · obtain ⟨e104, e108, -⟩ := hf
                      replace e104 : IO w4.heap.size i ((numsV L).take i) (a.tmps.getD 104 undef) w := e104
                      replace e108 : RdO w4 (jj - (i + 1)) (d - (i + 1)) ((numsV L).drop (i + 1)) (a.tmps.getD 108 undef) w := e108
                      refine rg_plain rfl fun K hK => ?_
                      obtain ⟨q104, c104, e104, o104⟩ := e104
                      obtain ⟨q108, e108, h108, r108⟩ := e108
                      obtain ⟨p', c', w5, hr, o5, h5, -⟩ := append_owned (P := Tryd.prog) (bytes := 8) (t := 26) (ty := 26) (c := d - (i + 1)) (m := jj - (i + 1)) (q := q108) (news := (numsV L).drop (i + 1)) w Tryd.underlying26 Tryd.infoI64 rfl o104 (r108 w (Only.ofBelow hR)) (by rw [List.length_drop, Hln.out]) (fun e => absurd e h108) (fun u hu => h1c.out u (List.mem_of_mem_drop hu)) (by omega) (by omega) hR.size
                      have hbel : Below w4.heap.size w w5 := h5.belowOf hR.size (fun x hx => ownBlkLt o104 x hx)
                      refine rg_append (s := .tmp 104) (x := .tmp 108) rfl e104 e108 hr ?_
                      exact hK _ _ ⟨p', c', rfl, o5⟩ ⟨hbel, hbel⟩
                    -- 10: s4 := assign t109
                    refine ⟨IO w4.heap.size (i + (jj - (i + 1))) ((numsV L).take i ++ (numsV L).drop (i + 1)), stands5_of (IO.stable _ _ _) (by intro x hx hk; obtain rfl := List.mem_singleton.1 hx; exact Bool.noConfusion (hk.symm.trans (by kernel_rfl : _ = true))), fun a w hR hf => ?_, ?_⟩
                    · obtain ⟨e109, -⟩ := hf
                      replace e109 : IO w4.heap.size (i + (jj - (i + 1))) ((numsV L).take i ++ (numsV L).drop (i + 1)) (a.tmps.getD 109 undef) w := e109
                      refine rg_plain rfl fun K hK => ?_
                      generalize hv109 : a.tmps.getD 109 undef = v109 at e109
                      go_simp
                      exact hK _ _ e109 ⟨hRr _, hRs _ _⟩
                    intro f39 w39 hR39 hf
                    dsimp only [mergeT]
                    obtain ⟨e4, -⟩ := hf
                    replace e4 : IO w4.heap.size (i + (jj - (i + 1))) ((numsV L).take i ++ (numsV L).drop (i + 1)) (f39 4) w39 := e4
                    -- R39>>
                    obtain ⟨q4, c4, e4, o4⟩ := e4
                    rw [e4]
                    have hO5 := Only.ofBelow hR39
                    have hn7 : i + (jj - (i + 1)) = jj - 1 := by omega
                    rw [hn7, ← numsV_erase] at o4
                    rw [hn7]
                    have HS2 := Lib.hid (HS1.out.erased Hn4.out Ho4.out (.inr trivial) hO5 o4)
                    clear hO5 o4
                    go_wp2_with fail
                    go_meet
                    exact ⟨q, jj - 1, c, last, L.eraseIdx i, q4, c4, rfl, rfl, HS2⟩
            · skip
              go_wp2_with fail
              go_loopw [68, 10] (fun a b w2 => ∃ (jj : Nat) (at1 : Int), a = .int .i64 (jj : Int) ∧ b = .int .i64 at1 ∧ jj ≤ n ∧ w2 = wo ∧ Hid ((at1 = -1 ∧ ∀ k o, k < jj → L[k]? = some o → (o.n : Int) ≠ no) ∨ (∃ (k : Nat) (o : Lt), at1 = (k : Int) ∧ k < jj ∧ L[k]? = some o ∧ (o.n : Int) = no))) (fun a _ _ => n - (intOf a).toNat)
              case atStart => exact ⟨0, -1, rfl, rfl, Nat.zero_le _, rfl, Lib.hid (.inl ⟨rfl, fun k o h => absurd h (Nat.not_lt_zero _)⟩)⟩
              case round =>
                obtain ⟨jj, at1, rfl, rfl, hjj, hwr, Hat⟩ := hrel
                have hwr' := hwr.symm
                subst hwr'
                clear hwr
                by_cases hlt2 : jj < n
                · have hlt2i : (jj : Int) < (n : Int) := by omega
                  obtain ⟨ol, hol⟩ : ∃ o, L[jj]? = some o := ⟨_, List.getElem?_eq_getElem (by rw [HS1.out.net.len]; exact hlt2)⟩
                  obtain ⟨g, rfl, -, -⟩ := HS1.out.own.at (by omega)
                  have hcell := HS1.out.own.cellAt (i := jj) (v := .int .i64 (ol.n : Int)) (by simp [numsV, hol])
                  have Hol := Lib.hid hol
                  clear hol
                  by_cases he : (ol.n : Int) = no
                  · have heb : ((ol.n : Int) == no) = true := by simp [he]
                    have He := Lib.hid he
                    clear he
                    go_wp2_with fail
                    refine ⟨⟨jj + 1, jj, by go_num, rfl, by omega, by trivial, Lib.hid (.inr ⟨jj, ol, rfl, by omega, Hol.out, He.out⟩)⟩, ?_⟩
                    show n - ((jj : Int) + 1).toNat < n - ((jj : Int)).toNat
                    omega
                  · have heb : ((ol.n : Int) == no) = false := by simp [he]
                    have He := Lib.hid he
                    clear he
                    go_wp2_with fail
                    refine ⟨⟨jj + 1, at1, by go_num, rfl, by omega, by trivial, Lib.hid ?_⟩, ?_⟩
                    · rcases Hat.out with ⟨e1, h1⟩ | ⟨k, o, e1, h1, h2, h3⟩
                      · refine .inl ⟨e1, fun k o hk ho => ?_⟩
                        by_cases e : k = jj
                        · subst e
                          obtain rfl := Option.some.inj (ho.symm.trans Hol.out)
                          exact He.out
                        · exact h1 k o (by omega) ho
                      · exact .inr ⟨k, o, e1, by omega, h2, h3⟩
                    · show n - ((jj : Int) + 1).toNat < n - ((jj : Int)).toNat
                      omega
                · obtain rfl : jj = n := by omega
                  have hlt2i : ¬ (jj : Int) < (jj : Int) := by omega
                  rcases Hat.out with ⟨rfl, hall⟩ | ⟨k, ol, rfl, hkn, hok, hon⟩
                  · have Hall := Lib.hid hall
                    clear hall
                    go_wp2_with fail
                    refine Hdrop.out.mono ?_
                    rintro e w4 (⟨rfl, -, o4⟩ | ⟨i, o5, rfl, hio, hin, -, -⟩)
                    · have HS2 := Lib.hid (HS1.out.only0 o4).more
                      clear o4
                      unfold ev
                      go_wp2_with fail
                      go_meet
                      exact ⟨q, jj, c, last, L, pw, d, rfl, rfl, HS2⟩
                    · have := HS1.out.net.len
                      exact absurd hin (Hall.out i o5 (by have := (List.getElem?_eq_some_iff.1 hio).1; omega) hio)
                  · have Hok2 := Lib.hid hok
                    have Hon := Lib.hid hon
                    have hki : (0 : Int) ≤ (k : Int) := by omega
                    clear hok hon
                    go_wp2_with fail
                    refine Hdrop.out.mono ?_
                    rintro e w4 (⟨rfl, hno2, -⟩ | ⟨i, o5, rfl, hio, hin, n4, o4⟩)
                    · exact absurd Hon.out (hno2 ol (List.mem_of_getElem? Hok2.out))
                    obtain rfl : i = k := HS1.out.find hio Hok2.out (by have := Hon.out; omega)
                    obtain ⟨g, rfl, hg1, hg2⟩ := HS1.out.own.at (by omega)
                    obtain ⟨own4, of4⟩ := HS1.out.netOnly o4
                    have Hown4 := Lib.hid own4
                    have Hn4 := Lib.hid n4
                    have Ho4 := Lib.hid o4
                    have hd4 := own4.view.2.2.2.1
                    have HLt : Hid (∀ w, Only [] w4 w → Rd w (some ⟨g, 0, none⟩) ((numsV L).take i)) := Lib.hid fun w ho => (own4.view.1.only0 ho).take i
                    have hln : (numsV L).length = jj := own4.view.2.1
                    have HSl : Hid (∀ a, RdO w4 (jj - (i + 1)) (d - (i + 1)) ((numsV L).drop (i + 1)) (.slice (if d = i + 1 then some ⟨g, 0, none⟩ else some ⟨g, i + 1, none⟩) (jj - (i + 1)) (d - (i + 1))) a) := Lib.hid fun _ => ⟨_, rfl, by split <;> simp, fun w ho => by
                      by_cases e : d = i + 1
                      · rw [List.drop_of_length_le (by omega)]
                        exact Rd.nil _ _
                      · rw [if_neg e]
                        simpa using (own4.view.1.only0 ho).drop (i + 1)⟩
                    have Hln := Lib.hid hln
                    have h1c : Hid (∀ u ∈ numsV L, u.oneCell' = true) := Lib.hid (fun u hu => by
                      obtain ⟨x, -, rfl⟩ := List.mem_map.1 hu
                      rfl)
                    have hd63 := own4.view.2.2.2.2.1
                    clear hio hin n4 own4 o4 of4 Hok2 Hon hg1 hg2 hln
                    go_wp2_with fail
                    have hRr : ∀ a, Below w4.heap.size a a := fun a => Below.refl _ _
                    have hRt : ∀ a b e, Below w4.heap.size a b → Below w4.heap.size b e → Below w4.heap.size a e := fun a b e h h2 => h.trans h2
                    have hRd : Below w4.heap.size w4 w4.drew := (Only.drew _).below
                    have hRs : ∀ j w, DirtR [(9, Below w4.heap.size)] j w w := DirtR.refl (by intro x hx w; obtain rfl := List.mem_singleton.1 hx; exact Below.refl _ _)
                    -- <<R39
                    refine wp_region_rg5 (Below w4.heap.size) (DirtR [(9, Below w4.heap.size)]) [[], [(4, none)], [(10, none)], [(101, some 1), (102, some 0)], [(100, some 3), (103, some 0)], [(4, none)], [(10, none)], [(106, some 0)], [(105, some 2), (107, some 0)], [(104, some 4), (108, some 0)], [(109, some 0)]] [(4, 0)] [none, none, none, none, some 4, none, none, none, none, none, none, none, none, none, none, none, none, none, none, none, none, none, none, none, none, none, none, none, none, none, none, none, none, none, none, none, none, none, none, none, none, none, none, none, none, none, none, none, none, none, none, none, none, none, none, none, none, none, none, none, none, none, none, none, none, none, none, none, none, none, none, none, none, none, none, none, none, none, none, none, none, none, none, none, none, none, none, none, none, none, none, none, none, none, none, none, none, none, none, none, some 100, some 101, some 102, some 103, some 104, some 105, some 106, some 107, some 108, some 109, none, none, none, none, none, none] (by kernel_rfl) rfl (by kernel_rfl) hRr hRt hRs hRd (by kernel_rfl) ?_
                    -- 0: s100 := buildSlice 26 0 #[]
                    refine ⟨INil w4.heap.size, stands5_of (INil.stable _) (by intro x hx hk; obtain rfl := List.mem_singleton.1 hx; exact Bool.noConfusion (hk.symm.trans (by kernel_rfl : _ = true))), fun a w hR hf => ?_, ?_⟩
                    · refine rg_plain rfl fun K hK => ?_
                      go_simp
                      exact hK _ _ ⟨_, rfl, Own.ofRow (vs := []) (rest := []) hR.size (Row.new w _ []) rfl (by omega)⟩ ⟨(Only.alloc w _).below.mono hR.size, Only.alloc w _⟩
                    -- 1: s101 := move t4
                    apply rgu_ev
                    · intro a w hR hf
                      obtain ⟨e4, -⟩ := hf
                      replace e4 : a.tmps.getD 4 undef = _ := e4
                      refine rg_plain rfl fun K hK => ?_
                      go_simp
                      exact hK _ _ rfl ⟨hRr _, hRs _ _⟩
                    -- 2: s102 := move t10
                    apply rgu_ev
                    · intro a w hR hf
                      obtain ⟨e10, -⟩ := hf
                      replace e10 : a.tmps.getD 10 undef = _ := e10
                      refine rg_plain rfl fun K hK => ?_
                      go_simp
                      exact hK _ _ rfl ⟨hRr _, hRs _ _⟩
                    -- 3: s103 := slice 26 t101 none (some t102) none
                    apply rgu_ev
                    · intro a w hR hf
                      obtain ⟨e101, e102, -⟩ := hf
                      replace e101 : a.tmps.getD 101 undef = _ := e101
                      replace e102 : a.tmps.getD 102 undef = _ := e102
                      refine rg_plain rfl fun K hK => ?_
                      have hd1 : (i : Int) ≤ (d : Int) := by omega
                      go_simp
                      exact hK _ _ rfl ⟨hRr _, hRs _ _⟩
                    -- 4: s104 := call { builtin append, args := #[t100, t103], #[26, 26] }
                    refine ⟨IO w4.heap.size i ((numsV L).take i), stands5_of (IO.stable _ _ _) (by intro x hx hk; obtain rfl := List.mem_singleton.1 hx; exact Bool.noConfusion (hk.symm.trans (by kernel_rfl : _ = true))), fun a w hR hf => ?_, ?_⟩
                    · obtain ⟨e100, e103, -⟩ := hf
                      replace e100 : INil w4.heap.size (a.tmps.getD 100 undef) w := e100
                      replace e103 : a.tmps.getD 103 undef = _ := e103
                      refine rg_plain rfl fun K hK => ?_
                      obtain ⟨q100, e100, o100⟩ := e100
                      obtain ⟨p', c', w5, hr, o5, h5⟩ := append_fresh (P := Tryd.prog) (bytes := 8) (t := 26) (ty := 26) (c := d) (m := i) (q := some ⟨g, 0, none⟩) (news := (numsV L).take i) w Tryd.underlying26 Tryd.infoI64 rfl o100 (HLt.out w (Only.ofBelow hR)) (by rw [List.length_take, Hln.out]; omega) (by simp) (fun u hu => h1c.out u (List.mem_of_mem_take hu)) (by omega) (by omega) hR.size
                      refine rg_append (s := .tmp 100) (x := .tmp 103) rfl e100 e103 hr ?_
                      exact hK _ _ ⟨p', c', rfl, o5⟩ ⟨h5.below.mono hR.size, h5⟩
                    -- 5: s105 := move t4
                    apply rgu_ev
                    · intro a w hR hf
                      obtain ⟨e4, -⟩ := hf
                      replace e4 : a.tmps.getD 4 undef = _ := e4
                      refine rg_plain rfl fun K hK => ?_
                      go_simp
                      exact hK _ _ rfl ⟨hRr _, hRs _ _⟩
                    -- 6: s106 := move t10
                    apply rgu_ev
                    · intro a w hR hf
                      obtain ⟨e10, -⟩ := hf
                      replace e10 : a.tmps.getD 10 undef = _ := e10
                      refine rg_plain rfl fun K hK => ?_
                      go_simp
                      exact hK _ _ rfl ⟨hRr _, hRs _ _⟩
                    -- 7: s107 := binOp Binadd 3 t106 (const (1:i64)) 3
                    apply rgu_ev
                    · intro a w hR hf
                      obtain ⟨e106, -⟩ := hf
                      replace e106 : a.tmps.getD 106 undef = _ := e106
                      refine rg_plain rfl fun K hK => ?_
                      have hw := IntWalk.i64_in ((i : Int) + 1) (by omega)
                      go_simp
                      exact hK _ _ rfl ⟨hRr _, hRs _ _⟩
                    -- 8: s108 := slice 26 t105 (some t107) none none
                    refine ⟨RdO w4 (jj - (i + 1)) (d - (i + 1)) ((numsV L).drop (i + 1)), stands5_of (RdO.any _ _ _ _) (by intro x hx hk; exact RdO.any _ _ _ _), fun a w hR hf => ?_, ?_⟩
                    · obtain ⟨e105, e107, -⟩ := hf
                      replace e105 : a.tmps.getD 105 undef = _ := e105
                      replace e107 : a.tmps.getD 107 undef = _ := e107
                      refine rg_plain rfl fun K hK => ?_
                      have hd1 : (i : Int) + 1 ≤ (jj : Int) := by omega
                      go_simp
                      exact hK _ _ (HSl.out w) ⟨hRr _, hRs _ _⟩
                    -- 9: s109 := call { builtin append, args := #[t104, t108], #[26, 26] }
                    refine ⟨IO w4.heap.size (i + (jj - (i + 1))) ((numsV L).take i ++ (numsV L).drop (i + 1)), stands5_of (IO.stable _ _ _) (by intro x hx hk; obtain rfl := List.mem_singleton.1 hx; exact Bool.noConfusion (hk.symm.trans (by kernel_rfl : _ = true))), fun a w hR hf => ?_, ?_⟩
                    · obtain ⟨e104, e108, -⟩ := hf
                      replace e104 : IO w4.heap.size i ((numsV L).take i) (a.tmps.getD 104 undef) w := e104
                      replace e108 : RdO w4 (jj - (i + 1)) (d - (i + 1)) ((numsV L).drop (i + 1)) (a.tmps.getD 108 undef) w := e108
                      refine rg_plain rfl fun K hK => ?_
                      obtain ⟨q104, c104, e104, o104⟩ := e104
                      obtain ⟨q108, e108, h108, r108⟩ := e108
                      obtain ⟨p', c', w5, hr, o5, h5, -⟩ := append_owned (P := Tryd.prog) (bytes := 8) (t := 26) (ty := 26) (c := d - (i + 1)) (m := jj - (i + 1)) (q := q108) (news := (numsV L).drop (i + 1)) w Tryd.underlying26 Tryd.infoI64 rfl o104 (r108 w (Only.ofBelow hR)) (by rw [List.length_drop, Hln.out]) (fun e => absurd e h108) (fun u hu => h1c.out u (List.mem_of_mem_drop hu)) (by omega) (by omega) hR.size
                      have hbel : Below w4.heap.size w w5 := h5.belowOf hR.size (fun x hx => ownBlkLt o104 x hx)
                      refine rg_append (s := .tmp 104) (x := .tmp 108) rfl e104 e108 hr ?_
                      exact hK _ _ ⟨p', c', rfl, o5⟩ ⟨hbel, hbel⟩
                    -- 10: s4 := assign t109
                    refine ⟨IO w4.heap.size (i + (jj - (i + 1))) ((numsV L).take i ++ (numsV L).drop (i + 1)), stands5_of (IO.stable _ _ _) (by intro x hx hk; obtain rfl := List.mem_singleton.1 hx; exact Bool.noConfusion (hk.symm.trans (by kernel_rfl : _ = true))), fun a w hR hf => ?_, ?_⟩
                    · obtain ⟨e109, -⟩ := hf
                      replace e109 : IO w4.heap.size (i + (jj - (i + 1))) ((numsV L).take i ++ (numsV L).drop (i + 1)) (a.tmps.getD 109 undef) w := e109
                      refine rg_plain rfl fun K hK => ?_
                      generalize hv109 : a.tmps.getD 109 undef = v109 at e109
                      go_simp
                      exact hK _ _ e109 ⟨hRr _, hRs _ _⟩
                    intro f39 w39 hR39 hf
                    dsimp only [mergeT]
                    obtain ⟨e4, -⟩ := hf
                    replace e4 : IO w4.heap.size (i + (jj - (i + 1))) ((numsV L).take i ++ (numsV L).drop (i + 1)) (f39 4) w39 := e4
                    -- R39>>
                    obtain ⟨q4, c4, e4, o4⟩ := e4
                    rw [e4]
                    have hO5 := Only.ofBelow hR39
                    have hn7 : i + (jj - (i + 1)) = jj - 1 := by omega
                    rw [hn7, ← numsV_erase] at o4
                    rw [hn7]
                    have HS2 := Lib.hid (HS1.out.erased Hn4.out Ho4.out (.inr trivial) hO5 o4)
                    clear hO5 o4
                    go_wp2_with fail
                    go_meet
                    exact ⟨q, jj - 1, c, last, L.eraseIdx i, q4, c4, rfl, rfl, HS2⟩
          · have hk1 : (kd == 1) = false := by simp; omega
            have hk4 : (kd == 4) = false := by simp; omega
            have hk2 : (kd == 2) = false := by simp; omega
            have hk3 : (kd == 3) = false := by simp; omega
            clear hkind hkind2
            go_wp2_with fail
            go_meet
            exact ⟨q, n, c, last, L, pw, d, rfl, rfl, Lib.hid HS1.out.more⟩
      case rest =>
        obtain ⟨q', n', c', last', L', p', d', rfl, rfl, HS2⟩ := hcut
        have hn4 := HS2.out.n4
        have hw := waiting_any wc B0 B0 q' n' c' last' L' HS2.out.net (by omega)
        go_wp2_with fail
        (with_reducible refine (hw).mono ?_)
        rintro e w4 ⟨pw2, dw2, rfl, own4, o4⟩
        clear hw
        have HS3 := Lib.hid (HS2.out.only0 o4)
        have hsi := sameInts_any w4 pw2 p' n' dw2 d' (L'.map fun o => (o.n : Int)) (by rw [List.length_map, HS2.out.net.len]) (by omega) (by rw [← numsV_ints]; exact own4.view.1) (by rw [← numsV_ints]; exact HS3.out.rd)
        clear own4 o4
        go_wp2_with fail
        (with_reducible refine (hsi).mono ?_)
        rintro e w5 ⟨rfl, o5⟩
        have HS4 := Lib.hid (HS3.out.only0 o5)
        clear o5 hsi
        go_wp2_with fail
        refine ⟨⟨j + 1, q', n', c', last', L', p', d', by go_num, by omega, rfl, rfl, HS4⟩, ?_⟩
        show nS - ((j : Int) + 1).toNat < nS - ((j : Int)).toNat
        omega
    · obtain rfl : j = nS := by omega
      have hji : ¬ (j : Int) < (j : Int) := by omega
      go_wp2_with fail
      go_ret
      exact ⟨rfl, HS.out.only⟩
end Go.Proofs.YtlgcclhepegggaaDoor
