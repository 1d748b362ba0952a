/- The walks of list.Entries and of its iterator. -/
import Derived.Test.YtfoplbolbjcggaaDoorEntryW
import Derived.Test.YtfoplbolbjcggaaDoorRange
import Derived.Laws.StructEq
import Derived.Deep.DeepCutAuto
import Derived.Deep.Cut
set_option linter.unusedVariables false
set_option maxRecDepth 100000
namespace Go.Proofs.YtfoplbolbjcggaaDoor
open Go.RowKit Go.Shelf

theorem cloneOb_any (p : Option Addr) (os : List Ob) (n c : Nat) (w : World) (hn : os.length = n) (hb : n ≤ 1000) (hp : p = none → n = 0 ∧ c = 0) (hx : Rd w p (os.flatMap obCells)) :
    Calls Tryd.prog 51 #[.slice p n c] w fun e w' => ∃ p' c', e = .returned (.slice p' n c') ∧ OwnK w' w.heap.size 59 5 (.slice p' n c') n (os.flatMap obCells) ∧ Only [] w w' := by
  have Hn := Lib.hid hn
  have heq := Lib.run_eql_slice_nil (P := Tryd.prog) w 36 59 p n c 0 0 Tryd.underlying36
  cases p with
  | none =>
    obtain ⟨rfl, rfl⟩ := hp rfl
    have hxs : os = [] := List.eq_nil_of_length_eq_zero hn
    clear hn hp
    go_enter Tryd.func51, Tryd.ntmps51
    go_wp2_with fail
    go_ret
    subst hxs
    exact ⟨none, 0, rfl, OwnK.nil _ _ _ _, Only.refl _ _⟩
  | some a =>
    have on := Only.alloc w (.cells #[] 59)
    have ow : OwnK (w.alloc (.cells #[] 59)) w.heap.size 59 5 (.slice (some ⟨w.heap.size, 0, none⟩) 0 0) 0 [] := OwnK.new (K := 5) (n := 0) [] (Nat.le_refl _) rfl (by omega)
    obtain ⟨p', c', w2, hr, o2, h2⟩ := appendK (P := Tryd.prog) (bytes := 72) (c := c) (q := some a) (m := n) (news := os.flatMap obCells) (t := 36) (ty := 36) _ Tryd.underlying36 Tryd.infoOb rfl (by omega) ow (hx.only0 on) (by rw [flat_length obCells 5 obCells_len, hn]) (by simp) (fun u hu => flat_one obCells obCells_one hu) (by omega) (by omega) on.size
    rw [Nat.zero_add] at hr o2
    have Hr := Lib.hid hr
    clear hn hp hr
    go_enter Tryd.func51, Tryd.ntmps51
    go_wp2_with (first | (at_builtin; refine wpl_append (s := .tmp 5) (x := .tmp 6) rfl rfl rfl rfl Hr.out ?_))
    go_ret
    exact ⟨p', c', rfl, o2, on.transN h2 (by simp [blk])|>.drop (by simp)⟩

theorem eqEn (a b : En) (w : World) : (Op.equalIn 10000 61 (enV a) (enV b)).run Tryd.prog w = .ok (decide (a = b)) w := by
  have hu : Tryd.prog.underlying 61 = some (.struct (Tryd.prog.fieldsOf 61)) := by kernel_rfl
  have hs : Tryd.prog.stoodInHeld 61 = false := by kernel_rfl
  have h := Tryd.underlying61
  unfold enV
  rw [show (10000 : Nat) = 9999 + 1 from rfl, run_equalIn_agg w 9999 61 _ _ hu hs]
  simp only [Program.fieldsOf, h]
  have q1 := fun (x y : ByteArray) (w : World) => run_equalIn_string (P := Tryd.prog) w 9998 9 x y Tryd.underlying9
  have q2 := fun (x y : Bool) (w : World) => run_equalIn_bool' (P := Tryd.prog) w 9998 4 x y Tryd.underlying4
  have q3 := fun (x y : Int) (w : World) => run_equalIn_int (P := Tryd.prog) w 9998 3 .i64 .i64 x y Tryd.underlying3
  simp [Op.eqFields, part, Tryd.isAgg9, Tryd.isAgg4, Tryd.isAgg3, q1, q2, q3, str_toList]
  obtain ⟨a1, a2, a3, a4, a5⟩ := a
  obtain ⟨b1, b2, b3, b4, b5⟩ := b
  simp only [En.mk.injEq]
  by_cases e1 : a1 = b1 <;> by_cases e2 : a2 = b2 <;> by_cases e3 : a3 = b3 <;> by_cases e4 : a4 = b4 <;> by_cases e5 : a5 = b5 <;> simp [e1, e2, e3, e4, e5]

theorem ent_pre {pf dl : Bs} {o : Ob} {e : En} (h : entOf pf dl o = some e) (hp : e.pre = true) : e = enC e.name := by
  unfold entOf at h
  by_cases p : pf <+: o.key
  · rw [if_pos p] at h
    cases hc : comm pf dl o.key with
    | some c => rw [hc] at h; obtain rfl := Option.some.inj h; rfl
    | none => rw [hc] at h; obtain rfl := Option.some.inj h; cases hp
  · rw [if_neg p] at h; cases h
theorem fold_pre : ∀ (l es : List En), es <+: l.foldl stepE es
  | [], es => List.prefix_refl _
  | e :: l, es => by
    rw [List.foldl_cons]
    refine List.IsPrefix.trans ?_ (fold_pre l (stepE es e))
    unfold stepE
    split
    · exact List.prefix_refl _
    · exact List.prefix_append _ _
theorem entries_take_pre (pf dl : Bs) (os : List Ob) (j : Nat) : entries pf dl (os.take j) <+: entries pf dl os := by
  unfold entries
  conv => rhs; rw [← List.take_append_drop j os, List.filterMap_append, List.foldl_append]
  exact fold_pre _ _
/-- what the iterator has captured -/
structure EntAt (w : World) (c1 c2 c3 : Nat) (p : Option Addr) (n k : Nat) (os : List Ob) (pf dl : Bs) : Prop where
  r1 : Row w c1 36 [.slice p n k]
  r2 : Row w c2 9 [.string (str pf)]
  r3 : Row w c3 9 [.string (str dl)]
  own : OwnK w 0 59 5 (.slice p n k) n (os.flatMap obCells)
  len : os.length = n
  mx : ∃ m : Int, w.cell? ⟨18, 0, none⟩ = some (.int .i64 m)
def entCap (c1 c2 c3 : Nat) (p : Option Addr) : List Nat := 18 :: c1 :: c2 :: c3 :: blk p
theorem EntAt.only {S : List Nat} {w w' : World} {c1 c2 c3 : Nat} {p : Option Addr} {n k : Nat} {os : List Ob} {pf dl : Bs} (h : EntAt w c1 c2 c3 p n k os pf dl) (ho : Only S w w') (hS : ∀ x ∈ entCap c1 c2 c3 p, x ∉ S) : EntAt w' c1 c2 c3 p n k os pf dl := by
  obtain ⟨m, hm⟩ := h.mx
  exact ⟨h.r1.only ho (hS _ (by simp [entCap])), h.r2.only ho (hS _ (by simp [entCap])), h.r3.only ho (hS _ (by simp [entCap])), h.own.only ho (fun x hx hm => hS x (by have := ownBlkF hx; simp [entCap, this]) hm), h.len, m, ho.cell hm (hS _ (by simp [entCap]))⟩
theorem EntAt.lt {w : World} {c1 c2 c3 : Nat} {p : Option Addr} {n k : Nat} {os : List Ob} {pf dl : Bs} (h : EntAt w c1 c2 c3 p n k os pf dl) : ∀ x ∈ entCap c1 c2 c3 p, x < w.heap.size := by
  intro x hx
  simp only [entCap, List.mem_cons] at hx
  rcases hx with rfl | rfl | rfl | rfl | hx
  · obtain ⟨m, hm⟩ := h.mx
    exact World.block_lt_of_cell? w _ hm
  · exact h.r1.lt
  · exact h.r2.lt
  · exact h.r3.lt
  · exact (h.own.view.2.2.2.2.2.2 x hx).2
def entF (c1 c2 c3 : Nat) : Value := .func (.func 52) #[] #[.pointer (some ⟨c1, 0, none⟩), .pointer (some ⟨c2, 0, none⟩), .pointer (some ⟨c3, 0, none⟩)]
def bkV' (nm : ByteArray) (t d : Int) (q : Option Addr) (m k : Nat) (u : Value) : Value := .agg #[.string nm, .int .i64 t, .int .i64 d, .slice q m k, u]
set_option maxHeartbeats 8000000 in
theorem entries_any (nm : ByteArray) (tt dd : Int) (u : Value) (hu : u.oneCell' = true) (p : Option Addr) (os : List Ob) (n c : Nat) (pf dl : Bs) (m : Int) (w : World) (hn : os.length = n) (hb : n ≤ 1000) (hp : p = none → n = 0 ∧ c = 0) (hx : Rd w p (os.flatMap obCells)) (hm : w.cell? ⟨18, 0, none⟩ = some (.int .i64 m)) :
    Calls Tryd.prog 28 #[bkV' nm tt dd p n c u, .string (str pf), .string (str dl)] w fun e w' => ∃ c1 c2 c3 p' k, e = .returned (entF c1 c2 c3) ∧ EntAt w' c1 c2 c3 p' n k os pf dl ∧ Only [] w w' ∧ ∀ x ∈ c1 :: c2 :: c3 :: blk p', w.heap.size ≤ x := by
  obtain ⟨w1, hw1⟩ : ∃ w1, w1 = w.alloc (.cells #[.string nm, .int .i64 tt, .int .i64 dd, .slice p n c, u] 39) := ⟨_, rfl⟩
  obtain ⟨w2, hw2⟩ : ∃ w2, w2 = w1.alloc (.cells #[.string (str pf)] 9) := ⟨_, rfl⟩
  obtain ⟨w3, hw3⟩ : ∃ w3, w3 = w2.alloc (.cells #[.string (str dl)] 9) := ⟨_, rfl⟩
  have o1 : Only [] w w1 := by rw [hw1]; exact Only.alloc _ _
  have o2 : Only [] w1 w2 := by rw [hw2]; exact Only.alloc _ _
  have o3 : Only [] w2 w3 := by rw [hw3]; exact Only.alloc _ _
  have s1 : w1.heap.size = w.heap.size + 1 := by rw [hw1]; simp
  have s2 : w2.heap.size = w.heap.size + 1 + 1 := by rw [hw2]; simp [s1]
  have r1 : Row w3 w.heap.size 39 [.string nm, .int .i64 tt, .int .i64 dd, .slice p n c, u] := by
    have : Row w1 w.heap.size 39 [.string nm, .int .i64 tt, .int .i64 dd, .slice p n c, u] := by rw [hw1]; exact Row.newOf _ _ _ _ rfl
    exact (this.only0 o2).only0 o3
  have r2 : Row w3 (w.heap.size + 1) 9 [.string (str pf)] := by
    have : Row w2 w1.heap.size 9 [.string (str pf)] := by rw [hw2]; exact Row.newOf _ _ _ _ rfl
    rw [s1] at this
    exact this.only0 o3
  have r3 : Row w3 (w.heap.size + 1 + 1) 9 [.string (str dl)] := by
    have : Row w3 w2.heap.size 9 [.string (str dl)] := by rw [hw3]; exact Row.newOf _ _ _ _ rfl
    rwa [s2] at this
  have o13 := (o1.trans0 o2).trans0 o3
  have hcl := cloneOb_any p os n c w3 hn hb hp (hx.only0 o13)
  have c3 := r1.cell (i := 3) rfl
  have hmf : ∀ (fn : Fn) (first cap : Array Value) (w : World), (Instr.makeFunc fn first cap).run Tryd.prog w = .ok (.func fn first cap) w := fun _ _ _ _ => rfl
  have Hw1 := Lib.hid hw1
  have Hw2 := Lib.hid hw2
  have Hw3 := Lib.hid hw3
  have HO3 := Lib.hid o13
  have HR2 := Lib.hid r2
  have HR3 := Lib.hid r3
  have Hn := Lib.hid hn
  have Hm := Lib.hid hm
  unfold bkV'
  clear hw1 hw2 hw3 o1 o2 o3 s1 s2 r1 r2 r3 o13 hn hm hx
  go_enter Tryd.func28, Tryd.ntmps28
  go_upto_region 1 with (fail)
  rw [← Hw1.out, ← Hw2.out, ← Hw3.out]
  clear Hw1 Hw2 Hw3
  go_wp2_with fail
  refine hcl.mono ?_
  clear hcl c3
  rintro e w4 ⟨p', k, rfl, own4, o4⟩
  obtain ⟨w5, hw5⟩ : ∃ w5, w5 = w4.alloc (.cells #[.slice p' n k] 36) := ⟨_, rfl⟩
  have o5 : Only [] w4 w5 := by rw [hw5]; exact Only.alloc _ _
  have r5 : Row w5 w4.heap.size 36 [.slice p' n k] := by rw [hw5]; exact Row.newOf _ _ _ _ rfl
  have HE : Hid (EntAt w5 w4.heap.size (w.heap.size + 1) (w.heap.size + 1 + 1) p' n k os pf dl) := Lib.hid ⟨r5, (HR2.out.only0 o4).only0 o5, (HR3.out.only0 o4).only0 o5, (own4.only0 o5).weaken (Nat.zero_le _), Hn.out, m, ((HO3.out.trans0 o4).trans0 o5).cell Hm.out (by simp)⟩
  have HO5 := Lib.hid ((HO3.out.trans0 o4).trans0 o5)
  have HLo : Hid (∀ x ∈ w4.heap.size :: (w.heap.size + 1) :: (w.heap.size + 1 + 1) :: blk p', w.heap.size ≤ x) := Lib.hid (fun x hx => by
    have h3 := HO3.out.size
    have h4 := o4.size
    simp only [List.mem_cons] at hx
    rcases hx with rfl | rfl | rfl | hx
    · omega
    · omega
    · omega
    · have := (own4.view.2.2.2.2.2.2 x hx).1; omega)
  have Hw5 := Lib.hid hw5
  clear own4 o4 hw5 o5 r5
  go_wp2_with fail
  rw [← Hw5.out]
  go_ret
  exact ⟨_, _, _, p', k, rfl, HE.out, HO5.out, HLo.out⟩
def EncE : En → Array Value → List Nat → World → Prop := fun e vs G _ => vs = #[enV e] ∧ G = []
set_option maxHeartbeats 16000000 in
theorem entries_seq {w : World} {c1 c2 c3 n k : Nat} {p : Option Addr} {os : List Ob} {pf dl : Bs} (h : EntAt w c1 c2 c3 p n k os pf dl) (hb : n ≤ 1000) (hk : ∀ o ∈ os, o.key.length ≤ 4294967280) (hpl : pf.length ≤ 140737488351232) (hdl : dl.length ≤ 140737488351232) :
    SeqD Tryd.prog 52 #[.pointer (some ⟨c1, 0, none⟩), .pointer (some ⟨c2, 0, none⟩), .pointer (some ⟨c3, 0, none⟩)] EncE (entries pf dl os) (entCap c1 c2 c3 p) w := by
  intro l J Jx W D o0 hD hJ hJx hY h0
  have hlt := h.lt
  have H := h.only o0 (by simp)
  obtain ⟨W1, hW1⟩ : ∃ W1, W1 = W.alloc (.cells #[.string ⟨#[]⟩, .bool false, .int .i64 0, .string ⟨#[]⟩, .int .i64 0] 61) := ⟨_, rfl⟩
  have oW : Only [] W W1 := by rw [hW1]; exact Only.alloc _ _
  have rL : Row W1 W.heap.size 61 (enCells en0) := by rw [hW1]; exact Row.newOf _ _ _ _ rfl
  have c0 := (H.only oW (by simp)).r1.cell (i := 0) rfl
  rw [hW1] at c0
  have hc1 := H.r1.lt
  have HD := Lib.hid hD
  have HJ := Lib.hid hJ
  have HY := Lib.hid hY
  have H0 : Hid (J [] D W1) := Lib.hid (hJ _ _ _ _ _ h0 oW (by simp))
  have HW : Hid (∀ x ∈ entCap c1 c2 c3 p, x < W.heap.size) := Lib.hid (fun x hx => Nat.lt_of_lt_of_le (hlt x hx) o0.size)
  have HB0 := Lib.hid (H.only oW (by simp))
  have HrL := Lib.hid rL
  have HWs := Lib.hid oW.size
  have HW1 := Lib.hid hW1
  have HKs := Lib.hid hk
  clear h hD hJ hY h0 hlt hJx H oW rL hW1 o0 hk
  refine (callsIn_wide (n := 10)).1 ?_
  refine callsIn_of_wp Tryd.func52 rfl trivial ?_
  simp only [Tryd.ntmps52, List.size_toArray, List.length_cons, List.length_nil, Nat.reduceAdd, Nat.reduceSub, Array.replicate_succ, Array.replicate_zero, List.push_toArray, List.append_toArray, List.nil_append, List.cons_append]
  gi_wp2_with fail
  rw [← HW1.out]
  clear c0 HW1
  gi_loopw [12] (fun a wr => ∃ (i : Nat) (D : List Nat) (last : En), a = .int .i64 (i : Int) ∧ i ≤ n ∧ Hid (J (entries pf dl (os.take i)) D wr) ∧ Hid (EntAt wr c1 c2 c3 p n k os pf dl) ∧ Hid (Row wr W.heap.size 61 (enCells last)) ∧ Hid (∀ e : En, e.pre = true → (last = e ↔ (entries pf dl (os.take i)).getLast? = some e)) ∧ Hid (last.pre = true → last = enC last.name) ∧ Hid (∀ d ∈ D, d ∉ W.heap.size :: entCap c1 c2 c3 p ∧ d < wr.heap.size) ∧ Hid (W.heap.size < wr.heap.size)) (fun a _ => n - (intOf a).toNat)
  case atStart =>
    refine ⟨0, D, en0, rfl, Nat.zero_le _, H0, HB0, HrL, Lib.hid (fun e he => ⟨fun h => absurd he (by rw [← h]; simp [en0]), fun h => absurd h (by simp [entries])⟩), Lib.hid (by simp [en0]), Lib.hid (fun d hd => ⟨fun hm => ?_, Nat.lt_of_lt_of_le (HD.out d hd).2 HWs.out⟩), Lib.hid HrL.out.lt⟩
    rcases List.mem_cons.1 hm with rfl | hm
    · exact absurd (HD.out _ hd).2 (Nat.lt_irrefl _)
    · exact (HD.out d hd).1 hm
  case round =>
    clear H0 HB0 HrL
    obtain ⟨i, D, last, rfl, hi, HJi, HB, HL, Hla, Hlp, HDi, HS⟩ := hrel
    by_cases hlt : i < n
    · obtain ⟨o, ho⟩ : ∃ o, os[i]? = some o := ⟨_, List.getElem?_eq_getElem (by rw [HB.out.len]; exact hlt)⟩
      obtain ⟨g, hg, -, -⟩ := HB.out.own.at (by omega)
      subst hg
      have hrd := HB.out.own.view.2.2.1
      have d0 := rd_elem obCells_len hrd ho (r := 0) rfl
      have d1 := rd_elem obCells_len hrd ho (r := 1) rfl
      have d2 := rd_elem obCells_len hrd ho (r := 2) rfl
      have d3 := rd_elem obCells_len hrd ho (r := 3) rfl
      have d4 := rd_elem obCells_len hrd ho (r := 4) rfl
      rw [Addr.add_lit] at d0 d1 d2 d3 d4
      rw [Nat.zero_add] at d0 d1 d2 d3 d4
      rw [Nat.add_zero] at d0
      obtain ⟨mx, hmx⟩ := HB.out.mx
      obtain ⟨wa, hwa⟩ : ∃ wa, wa = wr.alloc (.cells #[.string (str o.key), .int .i64 o.size, .string (str o.etag), .int .i64 (o.time : Int), .slice none 0 0] 59) := ⟨_, rfl⟩
      have oa : Only [] wr wa := by rw [hwa]; exact Only.alloc _ _
      have ra : Row wa wr.heap.size 59 (obCells o) := by rw [hwa]; exact Row.newOf _ _ _ _ rfl
      have y2 := HB.out.r2.cell (i := 0) rfl
      have y3 := HB.out.r3.cell (i := 0) rfl
      have hc2 := HB.out.r2.lt
      have hc3 := HB.out.r3.lt
      have hent := entry_any o pf dl mx wa (HKs.out o (List.mem_of_getElem? ho)) hpl hdl (oa.cell hmx (by simp))
      have Hoa := Lib.hid oa
      have Hwa := Lib.hid hwa
      have Ho := Lib.hid ho
      unfold obV at hent
      clear hrd hmx oa hwa ra ho
      gi_wp2_with fail
      rw [← Hwa.out]
      (with_reducible refine ⟨wideFn _, inW (hent) ?_⟩)
      rintro e wb ⟨rfl, ob⟩
      clear hent Hwa d0 d1 d2 d3 d4 y2 y3 hc2 hc3
      have HBb := Lib.hid ((HB.out.only Hoa.out (by simp)).only ob (by simp))
      have HLb := Lib.hid ((HL.out.only0 Hoa.out).only0 ob)
      have HJb := Lib.hid (HJ.out _ _ _ _ _ (HJ.out _ _ _ _ _ HJi.out Hoa.out (by simp)) ob (by simp))
      have Hsb : Hid (wr.heap.size ≤ wb.heap.size) := Lib.hid (Nat.le_trans Hoa.out.size ob.size)
      have Hsucc : Hid (entries pf dl (os.take (i + 1)) = stepO (entOf pf dl o) stepE (entries pf dl (os.take i))) := Lib.hid (entries_succ Ho.out)
      clear ob Hoa HB HL HJi
      unfold entAns
      cases hent : entOf pf dl o with
      | none =>
        have Hs2 : Hid (entries pf dl (os.take (i + 1)) = entries pf dl (os.take i)) := Lib.hid (by rw [Hsucc.out, hent]; rfl)
        clear hent Hsucc
        obtain ⟨wx, hwx⟩ : ∃ wx, wx = wb.alloc (.cells #[.string (str []), .bool false, .int .i64 0, .string (str []), .int .i64 0] 61) := ⟨_, rfl⟩
        have ox : Only [] wb wx := by rw [hwx]; exact Only.alloc _ _
        have HBx := Lib.hid (HBb.out.only ox (by simp))
        have HLx := Lib.hid (HLb.out.only0 ox)
        have HJx := Lib.hid (HJ.out _ _ _ _ _ HJb.out ox (by simp))
        have Hsx : Hid (wr.heap.size ≤ wx.heap.size) := Lib.hid (Nat.le_trans Hsb.out ox.size)
        have Hwx := Lib.hid hwx
        clear hwx ox HBb HLb HJb Hsb
        unfold enV en0
        dsimp only
        gi_wp2_with fail
        rw [← Hwx.out]
        refine ⟨⟨i + 1, D, last, by go_num, by omega, Lib.hid (by rw [Hs2.out]; exact HJx.out), HBx, HLx, Lib.hid (by rw [Hs2.out]; exact Hla.out), Hlp, Lib.hid (fun d hd => ⟨(HDi.out d hd).1, Nat.lt_of_lt_of_le (HDi.out d hd).2 Hsx.out⟩), Lib.hid (Nat.lt_of_lt_of_le HS.out Hsx.out)⟩, ?_⟩
        show n - ((i : Int) + 1).toNat < n - ((i : Int)).toNat
        omega
      | some e =>
        obtain ⟨wx, hwx⟩ : ∃ wx, wx = wb.alloc (.cells #[.string (str e.name), .bool e.pre, .int .i64 e.size, .string (str e.etag), .int .i64 e.time] 61) := ⟨_, rfl⟩
        have ox : Only [] wb wx := by rw [hwx]; exact Only.alloc _ _
        have rx : Row wx wb.heap.size 61 (enCells e) := by rw [hwx]; exact Row.newOf _ _ _ _ rfl
        have HBx := Lib.hid (HBb.out.only ox (by simp))
        have HLx := Lib.hid (HLb.out.only0 ox)
        have HJx := Lib.hid (HJ.out _ _ _ _ _ HJb.out ox (by simp))
        have Hsx : Hid (wr.heap.size ≤ wx.heap.size) := Lib.hid (Nat.le_trans Hsb.out ox.size)
        have Hwrb : Hid (wr.heap.size ≤ wb.heap.size) := Hsb
        have Hep : Hid (e.pre = true → e = enC e.name) := Lib.hid (ent_pre hent)
        have Hsc2 : Hid (entries pf dl (os.take (i + 1)) = stepE (entries pf dl (os.take i)) e) := Lib.hid (by rw [Hsucc.out, hent]; rfl)
        have l0 := HLb.out.cell (i := 0) rfl
        have l1 := HLb.out.cell (i := 1) rfl
        have l2 := HLb.out.cell (i := 2) rfl
        have l3 := HLb.out.cell (i := 3) rfl
        have l4 := HLb.out.cell (i := 4) rfl
        have hLlt := HLb.out.lt
        have Hrx := Lib.hid rx
        have Hwx := Lib.hid hwx
        clear hwx ox rx HBb HLb HJb Hsb hent Hsucc
        have hnt : ∀ b : Bs, (str b).toList = b := str_toList
        by_cases hA : e.pre = true ∧ last = e
        · obtain ⟨hpre, rfl⟩ := hA
          have Hs2 : Hid (entries pf dl (os.take (i + 1)) = entries pf dl (os.take i)) := Lib.hid (by
            rw [Hsc2.out]
            unfold stepE
            rw [if_pos ⟨hpre, (Hla.out _ hpre).1 rfl⟩])
          obtain ⟨nm, pr, sz, et, tm⟩ := last
          dsimp only at hpre l0 l1 l2 l3 l4
          subst hpre
          unfold enV
          dsimp only
          gi_wp2_with fail
          rw [← Hwx.out]
          refine ⟨⟨i + 1, D, _, by go_num, by omega, Lib.hid (by rw [Hs2.out]; exact HJx.out), HBx, HLx, Lib.hid (by rw [Hs2.out]; exact Hla.out), Hlp, Lib.hid (fun d hd => ⟨(HDi.out d hd).1, Nat.lt_of_lt_of_le (HDi.out d hd).2 Hsx.out⟩), Lib.hid (Nat.lt_of_lt_of_le HS.out Hsx.out)⟩, ?_⟩
          show n - ((i : Int) + 1).toNat < n - ((i : Int)).toNat
          omega
        · have happ : entries pf dl (os.take (i + 1)) = entries pf dl (os.take i) ++ [e] := by
            rw [Hsc2.out]
            unfold stepE
            rw [if_neg (fun h => hA ⟨h.1, (Hla.out _ h.1).2 h.2⟩)]
          obtain ⟨zs, hzs⟩ := entries_take_pre pf dl os (i + 1)
          rw [happ, List.append_assoc] at hzs
          obtain ⟨fn, tmps, assign, body, hy, hR⟩ := HY.out _ e _ D wx _ [] HJx.out hzs.symm ⟨rfl, rfl⟩ (by simp)
          have HR := Lib.hid hR
          have Happ := Lib.hid happ
          clear hR happ hzs
          obtain ⟨nm, pr, sz, et, tm⟩ := e
          unfold enV at hy ⊢
          dsimp only at hy ⊢
          rw [Hwx.out] at hy
          cases pr with
          | false =>
            gi_wp2_with fail
            rw [← Hwx.out]
            refine HR.out.mono ?_
            clear hy HR
            rintro e2 w3 ⟨D', o3, hD3, ⟨rfl, hj⟩ | ⟨rfl, hj⟩⟩
            · have hDlt : ∀ d ∈ D, d ≠ wb.heap.size ∧ d ≠ W.heap.size := fun d hd => ⟨fun e => by have := (HDi.out d hd).2; have := Hwrb.out; omega, fun e => (HDi.out d hd).1 (by rw [e]; simp)⟩
              have hB3 := HBx.out.only o3 (fun x hx hm => by
                rw [List.append_nil] at hm
                exact (HDi.out x hm).1 (List.mem_cons_of_mem _ hx))
              have hL3 := HLx.out.only o3 (fun hm => by rw [List.append_nil] at hm; exact (hDlt _ hm).2 rfl)
              have hx3 := Hrx.out.only o3 (fun hm => by rw [List.append_nil] at hm; exact (hDlt _ hm).1 rfl)
              have x0 := hx3.cell (i := 0) rfl
              have x1 := hx3.cell (i := 1) rfl
              have x2 := hx3.cell (i := 2) rfl
              have x3 := hx3.cell (i := 3) rfl
              have x4 := hx3.cell (i := 4) rfl
              have hst := hL3.storeEn (e' := ⟨nm, false, sz, et, tm⟩)
              have hLn := hL3.setRow (enCells ⟨nm, false, sz, et, tm⟩)
              have oS := Only.setRow w3 W.heap.size (enCells ⟨nm, false, sz, et, tm⟩).toArray
              have hDn : ∀ d ∈ D', d ∉ W.heap.size :: entCap c1 c2 c3 (some ⟨g, 0, none⟩) ∧ d < w3.heap.size := fun d hd => by
                obtain ⟨h1, h2⟩ := hD3 d hd
                refine ⟨fun hm => ?_, h2⟩
                rcases h1 with h1 | h1 | h1
                · exact (HDi.out d h1).1 hm
                · cases h1
                · have h5 := Hwrb.out
                  have h6 := HS.out
                  have h7 := Hsx.out
                  rcases List.mem_cons.1 hm with rfl | hm
                  · omega
                  · have := HW.out d hm; omega
              have HJ4 : Hid (J (entries pf dl (os.take (i + 1))) D' (w3.setRow W.heap.size (enCells ⟨nm, false, sz, et, tm⟩).toArray)) := Lib.hid (by
                rw [Happ.out]
                exact HJ.out _ _ _ _ _ hj oS (fun t ht => by
                  obtain rfl := List.mem_singleton.1 ht
                  exact ⟨fun hm => (hDn _ hm).1 (by simp), Nat.le_refl _⟩))
              have HB4 : Hid (EntAt (w3.setRow W.heap.size (enCells ⟨nm, false, sz, et, tm⟩).toArray) c1 c2 c3 (some ⟨g, 0, none⟩) n k os pf dl) := Lib.hid (hB3.only oS (fun x hx hm => by
                have h1 := HW.out x hx
                have h2 := List.mem_singleton.1 hm
                omega))
              have Hst := Lib.hid hst
              have HLn := Lib.hid hLn
              have HDn : Hid (∀ d ∈ D', d ∉ W.heap.size :: entCap c1 c2 c3 (some ⟨g, 0, none⟩) ∧ d < (w3.setRow W.heap.size (enCells ⟨nm, false, sz, et, tm⟩).toArray).heap.size) := Lib.hid (fun d hd => ⟨(hDn d hd).1, Nat.lt_of_lt_of_le (hDn d hd).2 oS.size⟩)
              have HSn : Hid (W.heap.size < (w3.setRow W.heap.size (enCells ⟨nm, false, sz, et, tm⟩).toArray).heap.size) := Lib.hid (hLn.lt)
              have Hlan : Hid (∀ e : En, e.pre = true → (⟨nm, false, sz, et, tm⟩ = e ↔ (entries pf dl (os.take (i + 1))).getLast? = some e)) := Lib.hid (fun e _ => by rw [Happ.out]; simp)
              clear hst hLn oS hDn hx3 hL3 hB3 hj hD3 hDlt o3
              gi_wp2_with (first | ((with_reducible show wpListIn _ _ _ _ _ _ _ _); refine wpli_store (ty := 61) (x := .tmp 5) (y := .tmp 38) (fun _ => trivial) rfl rfl rfl rfl Hst.out ?_))
              refine ⟨⟨i + 1, D', ⟨nm, false, sz, et, tm⟩, by go_num, by omega, HJ4, HB4, HLn, Hlan, Lib.hid (fun h => by first | exact Hep.out h | exact Hep.out trivial), HDn, HSn⟩, ?_⟩
              show n - ((i : Int) + 1).toNat < n - ((i : Int)).toNat
              omega
            · have Hj := Lib.hid hj
              clear hj o3 hD3
              gi_wp2_with fail
              (first | go_end0 | ((try simp only [Exit.inBlock, Exit.then]); refine bodyPost_ret (results_none rfl _ _ _) rfl ?_))
              exact ⟨⟨_, rfl⟩, .inr ⟨_, D', Hj.out⟩⟩
          | true =>
            have hA' : ¬ last = ⟨nm, true, sz, et, tm⟩ := fun h => hA ⟨rfl, h⟩
            cases hlp : last.pre with
            | false =>
              rw [hlp] at l1
              by_cases hnm : last.name = nm
              · skip
                gi_wp2_with fail
                rw [← Hwx.out]
                refine HR.out.mono ?_
                clear hy HR
                rintro e2 w3 ⟨D', o3, hD3, ⟨rfl, hj⟩ | ⟨rfl, hj⟩⟩
                · have hDlt : ∀ d ∈ D, d ≠ wb.heap.size ∧ d ≠ W.heap.size := fun d hd => ⟨fun e => by have := (HDi.out d hd).2; have := Hwrb.out; omega, fun e => (HDi.out d hd).1 (by rw [e]; simp)⟩
                  have hB3 := HBx.out.only o3 (fun x hx hm => by
                    rw [List.append_nil] at hm
                    exact (HDi.out x hm).1 (List.mem_cons_of_mem _ hx))
                  have hL3 := HLx.out.only o3 (fun hm => by rw [List.append_nil] at hm; exact (hDlt _ hm).2 rfl)
                  have hx3 := Hrx.out.only o3 (fun hm => by rw [List.append_nil] at hm; exact (hDlt _ hm).1 rfl)
                  have x0 := hx3.cell (i := 0) rfl
                  have x1 := hx3.cell (i := 1) rfl
                  have x2 := hx3.cell (i := 2) rfl
                  have x3 := hx3.cell (i := 3) rfl
                  have x4 := hx3.cell (i := 4) rfl
                  have hst := hL3.storeEn (e' := ⟨nm, true, sz, et, tm⟩)
                  have hLn := hL3.setRow (enCells ⟨nm, true, sz, et, tm⟩)
                  have oS := Only.setRow w3 W.heap.size (enCells ⟨nm, true, sz, et, tm⟩).toArray
                  have hDn : ∀ d ∈ D', d ∉ W.heap.size :: entCap c1 c2 c3 (some ⟨g, 0, none⟩) ∧ d < w3.heap.size := fun d hd => by
                    obtain ⟨h1, h2⟩ := hD3 d hd
                    refine ⟨fun hm => ?_, h2⟩
                    rcases h1 with h1 | h1 | h1
                    · exact (HDi.out d h1).1 hm
                    · cases h1
                    · have h5 := Hwrb.out
                      have h6 := HS.out
                      have h7 := Hsx.out
                      rcases List.mem_cons.1 hm with rfl | hm
                      · omega
                      · have := HW.out d hm; omega
                  have HJ4 : Hid (J (entries pf dl (os.take (i + 1))) D' (w3.setRow W.heap.size (enCells ⟨nm, true, sz, et, tm⟩).toArray)) := Lib.hid (by
                    rw [Happ.out]
                    exact HJ.out _ _ _ _ _ hj oS (fun t ht => by
                      obtain rfl := List.mem_singleton.1 ht
                      exact ⟨fun hm => (hDn _ hm).1 (by simp), Nat.le_refl _⟩))
                  have HB4 : Hid (EntAt (w3.setRow W.heap.size (enCells ⟨nm, true, sz, et, tm⟩).toArray) c1 c2 c3 (some ⟨g, 0, none⟩) n k os pf dl) := Lib.hid (hB3.only oS (fun x hx hm => by
                    have h1 := HW.out x hx
                    have h2 := List.mem_singleton.1 hm
                    omega))
                  have Hst := Lib.hid hst
                  have HLn := Lib.hid hLn
                  have HDn : Hid (∀ d ∈ D', d ∉ W.heap.size :: entCap c1 c2 c3 (some ⟨g, 0, none⟩) ∧ d < (w3.setRow W.heap.size (enCells ⟨nm, true, sz, et, tm⟩).toArray).heap.size) := Lib.hid (fun d hd => ⟨(hDn d hd).1, Nat.lt_of_lt_of_le (hDn d hd).2 oS.size⟩)
                  have HSn : Hid (W.heap.size < (w3.setRow W.heap.size (enCells ⟨nm, true, sz, et, tm⟩).toArray).heap.size) := Lib.hid (hLn.lt)
                  have Hlan : Hid (∀ e : En, e.pre = true → (⟨nm, true, sz, et, tm⟩ = e ↔ (entries pf dl (os.take (i + 1))).getLast? = some e)) := Lib.hid (fun e _ => by rw [Happ.out]; simp)
                  clear hst hLn oS hDn hx3 hL3 hB3 hj hD3 hDlt o3
                  gi_wp2_with (first | ((with_reducible show wpListIn _ _ _ _ _ _ _ _); refine wpli_store (ty := 61) (x := .tmp 5) (y := .tmp 38) (fun _ => trivial) rfl rfl rfl rfl Hst.out ?_))
                  refine ⟨⟨i + 1, D', ⟨nm, true, sz, et, tm⟩, by go_num, by omega, HJ4, HB4, HLn, Hlan, Lib.hid (fun h => by first | exact Hep.out h | exact Hep.out trivial), HDn, HSn⟩, ?_⟩
                  show n - ((i : Int) + 1).toNat < n - ((i : Int)).toNat
                  omega
                · have Hj := Lib.hid hj
                  clear hj o3 hD3
                  gi_wp2_with fail
                  (first | go_end0 | ((try simp only [Exit.inBlock, Exit.then]); refine bodyPost_ret (results_none rfl _ _ _) rfl ?_))
                  exact ⟨⟨_, rfl⟩, .inr ⟨_, D', Hj.out⟩⟩
              · skip
                gi_wp2_with fail
                rw [← Hwx.out]
                refine HR.out.mono ?_
                clear hy HR
                rintro e2 w3 ⟨D', o3, hD3, ⟨rfl, hj⟩ | ⟨rfl, hj⟩⟩
                · have hDlt : ∀ d ∈ D, d ≠ wb.heap.size ∧ d ≠ W.heap.size := fun d hd => ⟨fun e => by have := (HDi.out d hd).2; have := Hwrb.out; omega, fun e => (HDi.out d hd).1 (by rw [e]; simp)⟩
                  have hB3 := HBx.out.only o3 (fun x hx hm => by
                    rw [List.append_nil] at hm
                    exact (HDi.out x hm).1 (List.mem_cons_of_mem _ hx))
                  have hL3 := HLx.out.only o3 (fun hm => by rw [List.append_nil] at hm; exact (hDlt _ hm).2 rfl)
                  have hx3 := Hrx.out.only o3 (fun hm => by rw [List.append_nil] at hm; exact (hDlt _ hm).1 rfl)
                  have x0 := hx3.cell (i := 0) rfl
                  have x1 := hx3.cell (i := 1) rfl
                  have x2 := hx3.cell (i := 2) rfl
                  have x3 := hx3.cell (i := 3) rfl
                  have x4 := hx3.cell (i := 4) rfl
                  have hst := hL3.storeEn (e' := ⟨nm, true, sz, et, tm⟩)
                  have hLn := hL3.setRow (enCells ⟨nm, true, sz, et, tm⟩)
                  have oS := Only.setRow w3 W.heap.size (enCells ⟨nm, true, sz, et, tm⟩).toArray
                  have hDn : ∀ d ∈ D', d ∉ W.heap.size :: entCap c1 c2 c3 (some ⟨g, 0, none⟩) ∧ d < w3.heap.size := fun d hd => by
                    obtain ⟨h1, h2⟩ := hD3 d hd
                    refine ⟨fun hm => ?_, h2⟩
                    rcases h1 with h1 | h1 | h1
                    · exact (HDi.out d h1).1 hm
                    · cases h1
                    · have h5 := Hwrb.out
                      have h6 := HS.out
                      have h7 := Hsx.out
                      rcases List.mem_cons.1 hm with rfl | hm
                      · omega
                      · have := HW.out d hm; omega
                  have HJ4 : Hid (J (entries pf dl (os.take (i + 1))) D' (w3.setRow W.heap.size (enCells ⟨nm, true, sz, et, tm⟩).toArray)) := Lib.hid (by
                    rw [Happ.out]
                    exact HJ.out _ _ _ _ _ hj oS (fun t ht => by
                      obtain rfl := List.mem_singleton.1 ht
                      exact ⟨fun hm => (hDn _ hm).1 (by simp), Nat.le_refl _⟩))
                  have HB4 : Hid (EntAt (w3.setRow W.heap.size (enCells ⟨nm, true, sz, et, tm⟩).toArray) c1 c2 c3 (some ⟨g, 0, none⟩) n k os pf dl) := Lib.hid (hB3.only oS (fun x hx hm => by
                    have h1 := HW.out x hx
                    have h2 := List.mem_singleton.1 hm
                    omega))
                  have Hst := Lib.hid hst
                  have HLn := Lib.hid hLn
                  have HDn : Hid (∀ d ∈ D', d ∉ W.heap.size :: entCap c1 c2 c3 (some ⟨g, 0, none⟩) ∧ d < (w3.setRow W.heap.size (enCells ⟨nm, true, sz, et, tm⟩).toArray).heap.size) := Lib.hid (fun d hd => ⟨(hDn d hd).1, Nat.lt_of_lt_of_le (hDn d hd).2 oS.size⟩)
                  have HSn : Hid (W.heap.size < (w3.setRow W.heap.size (enCells ⟨nm, true, sz, et, tm⟩).toArray).heap.size) := Lib.hid (hLn.lt)
                  have Hlan : Hid (∀ e : En, e.pre = true → (⟨nm, true, sz, et, tm⟩ = e ↔ (entries pf dl (os.take (i + 1))).getLast? = some e)) := Lib.hid (fun e _ => by rw [Happ.out]; simp)
                  clear hst hLn oS hDn hx3 hL3 hB3 hj hD3 hDlt o3
                  gi_wp2_with (first | ((with_reducible show wpListIn _ _ _ _ _ _ _ _); refine wpli_store (ty := 61) (x := .tmp 5) (y := .tmp 38) (fun _ => trivial) rfl rfl rfl rfl Hst.out ?_))
                  refine ⟨⟨i + 1, D', ⟨nm, true, sz, et, tm⟩, by go_num, by omega, HJ4, HB4, HLn, Hlan, Lib.hid (fun h => by first | exact Hep.out h | exact Hep.out trivial), HDn, HSn⟩, ?_⟩
                  show n - ((i : Int) + 1).toNat < n - ((i : Int)).toNat
                  omega
                · have Hj := Lib.hid hj
                  clear hj o3 hD3
                  gi_wp2_with fail
                  (first | go_end0 | ((try simp only [Exit.inBlock, Exit.then]); refine bodyPost_ret (results_none rfl _ _ _) rfl ?_))
                  exact ⟨⟨_, rfl⟩, .inr ⟨_, D', Hj.out⟩⟩
            | true =>
              rw [hlp] at l1
              have hnm : ¬ last.name = nm := fun h => hA' (by
                rw [Hlp.out hlp, h]
                exact (Hep.out rfl).symm)
              gi_wp2_with fail
              rw [← Hwx.out]
              refine HR.out.mono ?_
              clear hy HR
              rintro e2 w3 ⟨D', o3, hD3, ⟨rfl, hj⟩ | ⟨rfl, hj⟩⟩
              · have hDlt : ∀ d ∈ D, d ≠ wb.heap.size ∧ d ≠ W.heap.size := fun d hd => ⟨fun e => by have := (HDi.out d hd).2; have := Hwrb.out; omega, fun e => (HDi.out d hd).1 (by rw [e]; simp)⟩
                have hB3 := HBx.out.only o3 (fun x hx hm => by
                  rw [List.append_nil] at hm
                  exact (HDi.out x hm).1 (List.mem_cons_of_mem _ hx))
                have hL3 := HLx.out.only o3 (fun hm => by rw [List.append_nil] at hm; exact (hDlt _ hm).2 rfl)
                have hx3 := Hrx.out.only o3 (fun hm => by rw [List.append_nil] at hm; exact (hDlt _ hm).1 rfl)
                have x0 := hx3.cell (i := 0) rfl
                have x1 := hx3.cell (i := 1) rfl
                have x2 := hx3.cell (i := 2) rfl
                have x3 := hx3.cell (i := 3) rfl
                have x4 := hx3.cell (i := 4) rfl
                have hst := hL3.storeEn (e' := ⟨nm, true, sz, et, tm⟩)
                have hLn := hL3.setRow (enCells ⟨nm, true, sz, et, tm⟩)
                have oS := Only.setRow w3 W.heap.size (enCells ⟨nm, true, sz, et, tm⟩).toArray
                have hDn : ∀ d ∈ D', d ∉ W.heap.size :: entCap c1 c2 c3 (some ⟨g, 0, none⟩) ∧ d < w3.heap.size := fun d hd => by
                  obtain ⟨h1, h2⟩ := hD3 d hd
                  refine ⟨fun hm => ?_, h2⟩
                  rcases h1 with h1 | h1 | h1
                  · exact (HDi.out d h1).1 hm
                  · cases h1
                  · have h5 := Hwrb.out
                    have h6 := HS.out
                    have h7 := Hsx.out
                    rcases List.mem_cons.1 hm with rfl | hm
                    · omega
                    · have := HW.out d hm; omega
                have HJ4 : Hid (J (entries pf dl (os.take (i + 1))) D' (w3.setRow W.heap.size (enCells ⟨nm, true, sz, et, tm⟩).toArray)) := Lib.hid (by
                  rw [Happ.out]
                  exact HJ.out _ _ _ _ _ hj oS (fun t ht => by
                    obtain rfl := List.mem_singleton.1 ht
                    exact ⟨fun hm => (hDn _ hm).1 (by simp), Nat.le_refl _⟩))
                have HB4 : Hid (EntAt (w3.setRow W.heap.size (enCells ⟨nm, true, sz, et, tm⟩).toArray) c1 c2 c3 (some ⟨g, 0, none⟩) n k os pf dl) := Lib.hid (hB3.only oS (fun x hx hm => by
                  have h1 := HW.out x hx
                  have h2 := List.mem_singleton.1 hm
                  omega))
                have Hst := Lib.hid hst
                have HLn := Lib.hid hLn
                have HDn : Hid (∀ d ∈ D', d ∉ W.heap.size :: entCap c1 c2 c3 (some ⟨g, 0, none⟩) ∧ d < (w3.setRow W.heap.size (enCells ⟨nm, true, sz, et, tm⟩).toArray).heap.size) := Lib.hid (fun d hd => ⟨(hDn d hd).1, Nat.lt_of_lt_of_le (hDn d hd).2 oS.size⟩)
                have HSn : Hid (W.heap.size < (w3.setRow W.heap.size (enCells ⟨nm, true, sz, et, tm⟩).toArray).heap.size) := Lib.hid (hLn.lt)
                have Hlan : Hid (∀ e : En, e.pre = true → (⟨nm, true, sz, et, tm⟩ = e ↔ (entries pf dl (os.take (i + 1))).getLast? = some e)) := Lib.hid (fun e _ => by rw [Happ.out]; simp)
                clear hst hLn oS hDn hx3 hL3 hB3 hj hD3 hDlt o3
                gi_wp2_with (first | ((with_reducible show wpListIn _ _ _ _ _ _ _ _); refine wpli_store (ty := 61) (x := .tmp 5) (y := .tmp 38) (fun _ => trivial) rfl rfl rfl rfl Hst.out ?_))
                refine ⟨⟨i + 1, D', ⟨nm, true, sz, et, tm⟩, by go_num, by omega, HJ4, HB4, HLn, Hlan, Lib.hid (fun h => by first | exact Hep.out h | exact Hep.out trivial), HDn, HSn⟩, ?_⟩
                show n - ((i : Int) + 1).toNat < n - ((i : Int)).toNat
                omega
              · have Hj := Lib.hid hj
                clear hj o3 hD3
                gi_wp2_with fail
                (first | go_end0 | ((try simp only [Exit.inBlock, Exit.then]); refine bodyPost_ret (results_none rfl _ _ _) rfl ?_))
                exact ⟨⟨_, rfl⟩, .inr ⟨_, D', Hj.out⟩⟩
    · obtain rfl : i = n := by omega
      have hJe := HJi.out
      rw [List.take_of_length_le (by rw [HB.out.len]; exact Nat.le_refl _)] at hJe
      have HJe := Lib.hid hJe
      clear hJe HJi
      gi_wp2_with fail
      (first | go_end0 | ((try simp only [Exit.inBlock, Exit.then]); refine bodyPost_ret (results_none rfl _ _ _) rfl ?_))
      exact ⟨⟨_, rfl⟩, .inl ⟨D, HJe.out⟩⟩
end Go.Proofs.YtfoplbolbjcggaaDoor
