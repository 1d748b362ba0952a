/- The walk of list.Page. -/
import Derived.Test.YtfoplbolbjcggaaDoorRefPageW
import Derived.WalkMore
set_option linter.unusedVariables false
set_option maxRecDepth 100000
namespace Go.Proofs.YtfoplbolbjcggaaDoor
open Go.RowKit Go.Shelf
attribute [local go_sem] Oper.semAt_some

/-- while Page goes over the entries -/
structure PgI (w0 : World) (X BB N : Nat) (pn : Option Addr) (cn : Nat) (name tk : Bs) (M : Nat) (ents : List En) (next : Bs) (q : Option Addr) (m k : Nat) (w : World) : Prop where
  rx : Row w X 43 [.slice q m k, .string (str next)]
  own : OwnK w BB 61 5 (.slice q m k) m (ents.flatMap enCells)
  len : ents.length = m
  r8 : Row w (w0.heap.size + 1) 9 [.string (str tk)]
  r9 : Row w (w0.heap.size + 1 + 1) 3 [.int .i64 (M : Int)]
  r10 : Row w (w0.heap.size + 1 + 1 + 1) 43 [.slice none 0 0, .string (str [])]
  r12 : Row w N 22 [.slice pn name.length cn]
  nm : Rd w pn (u8s name)
  only : Only [] w0 w
theorem PgI.step {w0 w w' : World} {X BB N : Nat} {pn : Option Addr} {cn : Nat} {name tk : Bs} {M : Nat} {ents : List En} {next : Bs} {q : Option Addr} {m k : Nat} (h : PgI w0 X BB N pn cn name tk M ents next q m k w) (ho : Only [] w w') : PgI w0 X BB N pn cn name tk M ents next q m k w' :=
  ⟨h.rx.only0 ho, h.own.only0 ho, h.len, h.r8.only0 ho, h.r9.only0 ho, h.r10.only0 ho, h.r12.only0 ho, h.nm.only0 ho, h.only.trans0 ho⟩
set_option maxHeartbeats 16000000 in
theorem page_ok (nm : ByteArray) (tt dd : Int) (u : Value) (hu : u.oneCell' = true) (p : Option Addr) (os : List Ob) (n c M : Nat) (pf dl tk name : Bs) (mx : Int) (w0 : World) (hn : os.length = n) (hb : n ≤ 1000) (hp : p = none → n = 0 ∧ c = 0) (hx : Rd w0 p (os.flatMap obCells)) (hs : SortedK os) (hk : ∀ o ∈ os, o.key.length ≤ 4294967280) (hpl : pf.length ≤ 140737488351232) (hdl : dl.length ≤ 140737488351232) (htl : tk.length ≤ 140737488351232) (hM1 : 1 ≤ M) (hM2 : M ≤ 100) (hun : unhexB tk = some name) (hmx : w0.cell? ⟨18, 0, none⟩ = some (.int .i64 mx)) :
    Calls Tryd.prog 23 #[bkV' nm tt dd p n c u, .string (str pf), .string (str dl), .string (str tk), .int .i64 (M : Int)] w0 fun e w' => ∃ q m k, e = .returned (.tuple #[pgV q m k (str (pageOf hexB (entries pf dl os) (tokOf tk name) M).next), .nilIface]) ∧ (pageOf hexB (entries pf dl os) (tokOf tk name) M).ents.length = m ∧ OwnK w' w0.heap.size 61 5 (.slice q m k) m ((pageOf hexB (entries pf dl os) (tokOf tk name) M).ents.flatMap enCells) ∧ Only [] w0 w' := by
  obtain ⟨w1, hw1⟩ : ∃ w1, w1 = w0.alloc (.cells #[.string nm, .int .i64 tt, .int .i64 dd, .slice p n c, u] 39) := ⟨_, rfl⟩
  obtain ⟨w2, hw2⟩ : ∃ w2, w2 = w1.alloc (.cells #[.string (str tk)] 9) := ⟨_, rfl⟩
  obtain ⟨w3, hw3⟩ : ∃ w3, w3 = w2.alloc (.cells #[.int .i64 (M : Int)] 3) := ⟨_, rfl⟩
  obtain ⟨w4, hw4⟩ : ∃ w4, w4 = w3.alloc (.cells #[.slice none 0 0, .string ⟨#[]⟩] 43) := ⟨_, rfl⟩
  have o1 : Only [] w0 w1 := by rw [hw1]; exact Only.alloc _ _
  have o2 : Only [] w1 w2 := by rw [hw2]; exact Only.alloc _ _
  have o3 : Only [] w2 w3 := by rw [hw3]; exact Only.alloc _ _
  have o4 : Only [] w3 w4 := by rw [hw4]; exact Only.alloc _ _
  have s1 : w1.heap.size = w0.heap.size + 1 := by rw [hw1]; simp
  have s2 : w2.heap.size = w0.heap.size + 1 + 1 := by rw [hw2]; simp [s1]
  have s3 : w3.heap.size = w0.heap.size + 1 + 1 + 1 := by rw [hw3]; simp [s2]
  have r1 : Row w4 w0.heap.size 39 [.string nm, .int .i64 tt, .int .i64 dd, .slice p n c, u] := by
    have : Row w1 w0.heap.size 39 [.string nm, .int .i64 tt, .int .i64 dd, .slice p n c, u] := by rw [hw1]; exact Row.newOf _ _ _ _ rfl
    exact ((this.only0 o2).only0 o3).only0 o4
  have r2 : Row w4 (w0.heap.size + 1) 9 [.string (str tk)] := by
    have : Row w2 w1.heap.size 9 [.string (str tk)] := by rw [hw2]; exact Row.newOf _ _ _ _ rfl
    rw [s1] at this
    exact (this.only0 o3).only0 o4
  have r3 : Row w4 (w0.heap.size + 1 + 1) 3 [.int .i64 (M : Int)] := by
    have : Row w3 w2.heap.size 3 [.int .i64 (M : Int)] := by rw [hw3]; exact Row.newOf _ _ _ _ rfl
    rw [s2] at this
    exact this.only0 o4
  have r4 : Row w4 (w0.heap.size + 1 + 1 + 1) 43 [.slice none 0 0, .string (str [])] := by rw [← s3, hw4]; exact Row.newOf _ _ _ _ rfl
  have huh := unhex_any tk (str tk) rfl w4 (by omega)
  have hm1 : ¬ (M : Int) < 1 := by omega
  have hm2 : ¬ (100 : Int) < (M : Int) := by omega
  have HO4 := Lib.hid (((o1.trans0 o2).trans0 o3).trans0 o4)
  have HR1 := Lib.hid r1
  have HR2 := Lib.hid r2
  have HR3 := Lib.hid r3
  have HR4 := Lib.hid r4
  have Hw1 := Lib.hid hw1
  have Hw2 := Lib.hid hw2
  have Hw3 := Lib.hid hw3
  have Hw4 := Lib.hid hw4
  have Hx := Lib.hid hx
  have Hun := Lib.hid hun
  have Hus := Lib.hid hu
  have Hmx := Lib.hid hmx
  unfold bkV'
  clear o1 o2 o3 o4 s1 s2 s3 r1 r2 r3 r4 hw1 hw2 hw3 hw4 hx hun hu hmx
  refine calls_of_marks Tryd.func23 rfl ?_
  simp only [Tryd.ntmps23, List.size_toArray, List.length_cons, List.length_nil, Nat.reduceAdd, Nat.reduceSub, Array.replicate_succ, Array.replicate_zero, List.push_toArray, List.append_toArray, List.nil_append, List.cons_append]
  go_wp2_with fail
  go_step3
  go_wp2_with fail
  rw [← Hw1.out, ← Hw2.out, ← Hw3.out, ← Hw4.out]
  clear Hw1 Hw2 Hw3 Hw4
  refine huh.mono ?_
  clear huh
  rintro e wu ⟨pn, cn, ys, ok, rfl, own, ou, hok⟩
  obtain ⟨rfl, hys⟩ : ok = true ∧ ys = name := by
    rcases hok with ⟨h1, h2⟩ | ⟨h1, h2, h3⟩
    · rw [Hun.out] at h2; exact ⟨h1, (Option.some.inj h2).symm⟩
    · rw [Hun.out] at h3; cases h3
  subst hys
  have hX : wu.heap.size + 1 = wu.heap.size + 1 := rfl
  obtain ⟨wa, hwa⟩ : ∃ wa, wa = wu.alloc (.cells #[.slice pn ys.length cn] 22) := ⟨_, rfl⟩
  obtain ⟨wx, hwx⟩ : ∃ wx, wx = wa.alloc (.cells #[.slice none 0 0, .string ⟨#[]⟩] 43) := ⟨_, rfl⟩
  have oa : Only [] wu wa := by rw [hwa]; exact Only.alloc _ _
  have ox : Only [] wa wx := by rw [hwx]; exact Only.alloc _ _
  have sa : wa.heap.size = wu.heap.size + 1 := by rw [hwa]; simp
  have ra : Row wx wu.heap.size 22 [.slice pn ys.length cn] := by
    have : Row wa wu.heap.size 22 [.slice pn ys.length cn] := by rw [hwa]; exact Row.newOf _ _ _ _ rfl
    exact this.only0 ox
  have rx : Row wx (wu.heap.size + 1) 43 [.slice none 0 0, .string (str [])] := by rw [← sa, hwx]; exact Row.newOf _ _ _ _ rfl
  have oux := oa.trans0 ox
  have HOx := Lib.hid ((HO4.out.trans0 ou).trans0 oux)
  have HP0 : Hid (PgI w0 (wu.heap.size + 1) wx.heap.size wu.heap.size pn cn ys tk M [] [] none 0 0 wx) := Lib.hid ⟨rx, OwnK.nil _ _ _ _, rfl, (HR2.out.only0 ou).only0 oux, (HR3.out.only0 ou).only0 oux, (HR4.out.only0 ou).only0 oux, ra, (own.view.1).only0 oux, HOx.out⟩
  have HR1x := Lib.hid ((HR1.out.only0 ou).only0 oux)
  have HU := Lib.hid ou
  have Hpl : Hid (∀ a, pn = some a → a.block < wu.heap.size) := Lib.hid (fun a ha => (own.view.2.2.2.2.2 a ha).2)
  have Hpn : Hid (pn = none → ys.length = 0 ∧ cn = 0) := Lib.hid own.view.2.2.1
  have hen := entries_any nm tt dd u Hus.out p os n c pf dl mx wx hn hb hp (Hx.out.only0 HOx.out) (HOx.out.cell Hmx.out (by simp))
  have Hwa := Lib.hid hwa
  have Hwx := Lib.hid hwx
  unfold bkV' at hen
  clear hok own ou oa ox sa ra rx oux hwa hwx hX
  go_wp2_with fail
  rw [← Hwa.out, ← Hwx.out]
  clear Hwa Hwx
  have c0 := HR1x.out.cell (i := 0) rfl
  have c1 := HR1x.out.cell (i := 1) rfl
  have c2 := HR1x.out.cell (i := 2) rfl
  have c3 := HR1x.out.cell (i := 3) rfl
  have c4 := HR1x.out.cell (i := 4) rfl
  go_step3
  go_wp2_with fail
  refine hen.mono ?_
  clear hen c0 c1 c2 c3 c4
  rintro e we ⟨c1, c2, c3, p', k', rfl, hEA, oe, hlo⟩
  have Hcl := Lib.hid hlo
  have Hseq := Lib.hid (entries_seq hEA hb hk hpl hdl)
  have Hcap := Lib.hid hEA.lt
  have HP1 := Lib.hid (HP0.out.step oe)
  have Hxe : Hid (wx.heap.size ≤ we.heap.size) := Lib.hid oe.size
  have HXx : Hid (wu.heap.size + 1 < wx.heap.size) := Lib.hid HP0.out.rx.lt
  unfold entF
  have HMg : Hid (18 < w0.heap.size) := Lib.hid (World.block_lt_of_cell? w0 _ Hmx.out)
  clear hEA oe HP0 hlo
  go_wp2_with fail
  have Hlo : Hid (w0.heap.size + 1 + 1 + 1 < wu.heap.size) := Lib.hid (HR4.out.only0 HU.out).lt
  have Hblk : Hid (∀ q m k zs next w, PgI w0 (wu.heap.size + 1) wx.heap.size wu.heap.size pn cn ys tk M zs next q m k w → ∀ x ∈ blk q, wx.heap.size ≤ x) := Lib.hid (fun q m k zs next w h x hx => (h.own.view.2.2.2.2.2.2 x hx).1)
  have Hst : Hid (∀ q m k zs next A B T, PgI w0 (wu.heap.size + 1) wx.heap.size wu.heap.size pn cn ys tk M zs next q m k A → Only T A B → (∀ t ∈ T, t ∉ (wu.heap.size + 1) :: blk q ∧ we.heap.size ≤ t) → PgI w0 (wu.heap.size + 1) wx.heap.size wu.heap.size pn cn ys tk M zs next q m k B) := Lib.hid (fun q m k zs next A B T h ho hT => by
    have hge : ∀ t ∈ T, wx.heap.size ≤ t := fun t ht => Nat.le_trans Hxe.out (hT t ht).2
    have hl := Hlo.out
    have hXx := HXx.out
    refine ⟨h.rx.only ho (fun hm => (hT _ hm).1 (by simp)), h.own.only ho (fun x hx hm => (hT x hm).1 (by have := ownBlkF hx; simp [this])), h.len, h.r8.only ho (fun hm => by have := hge _ hm; omega), h.r9.only ho (fun hm => by have := hge _ hm; omega), h.r10.only ho (fun hm => by have := hge _ hm; omega), h.r12.only ho (fun hm => by have := hge _ hm; omega), h.nm.only ho (fun a ha hm => by have := hge _ hm; have := Hpl.out a ha; omega), h.only.transN ho (fun t ht => by have := hge t ht; omega)⟩)
  have Hfin : Hid (∀ q m k zs next B, PgI w0 (wu.heap.size + 1) wx.heap.size wu.heap.size pn cn ys tk M zs next q m k B → (∀ d ∈ (wu.heap.size + 1) :: blk q, d ≠ we.heap.size ∧ d < B.heap.size) → B.heap[we.heap.size]? = some (.deferred (some [])) →
      Hid ((Instr.storeAt 43 (.pointer (some ⟨w0.heap.size + 1 + 1 + 1, 0, none⟩)) (.agg #[.slice q m k, .string (str next)])).run Tryd.prog B = .ok () (B.setRow (w0.heap.size + 1 + 1 + 1) #[.slice q m k, .string (str next)])) ∧
      Hid ((B.setRow (w0.heap.size + 1 + 1 + 1) #[.slice q m k, .string (str next)]).heap[we.heap.size]? = some (.deferred (some []))) ∧
      Hid (Row ((B.setRow (w0.heap.size + 1 + 1 + 1) #[.slice q m k, .string (str next)]).putObj we.heap.size (.deferred none)) (w0.heap.size + 1 + 1 + 1) 43 [.slice q m k, .string (str next)]) ∧
      Hid (OwnK ((B.setRow (w0.heap.size + 1 + 1 + 1) #[.slice q m k, .string (str next)]).putObj we.heap.size (.deferred none)) w0.heap.size 61 5 (.slice q m k) m (zs.flatMap enCells)) ∧
      Hid (Only [] w0 ((B.setRow (w0.heap.size + 1 + 1 + 1) #[.slice q m k, .string (str next)]).putObj we.heap.size (.deferred none)))) := Lib.hid (fun q m k zs next B hI hd hk => by
    have hl := Hlo.out
    have hXx := HXx.out
    have hxe := Hxe.out
    have hst := hI.r10.storeAt (P := Tryd.prog) (ty := 43) (us := [.slice q m k, .string (str next)]) pgInfo rfl (by simp [Value.oneCell'])
    have hrow := hI.r10.setRow [.slice q m k, .string (str next)]
    have oS := Only.setRow B (w0.heap.size + 1 + 1 + 1) #[.slice q m k, .string (str next)]
    have oP := Only.putObj (B.setRow (w0.heap.size + 1 + 1 + 1) #[.slice q m k, .string (str next)]) we.heap.size (.deferred none)
    have hO := (hI.only.transN oS (by simp; omega)).transN oP (by simp; omega)
    have hown := (hI.own.only oS (fun x hx hm => by have := (hI.own.view.2.2.2.2.2.2 x (ownBlkF hx)).1; have := List.mem_singleton.1 hm; omega)).only oP (fun x hx hm => (hd x (by have := ownBlkF hx; simp [this])).1 (List.mem_singleton.1 hm))
    exact ⟨Lib.hid hst, Lib.hid ((oS.block _ (Array.getElem?_eq_some_iff.1 hk).1 (by simp; omega)).trans hk), Lib.hid (hrow.only oP (by simp; omega)), Lib.hid (hown.weaken (by omega)), Lib.hid hO⟩)
  refine wp_rangeD (xs := entries pf dl os) rfl (enters_of Tryd.func52 (by kernel_rfl) rfl) Hseq.out Hcap.out (by rintro _ _ _ _ ⟨rfl, -⟩; rfl)
    (fun zs D w => ∃ q m k, D = (wu.heap.size + 1) :: blk q ∧ PgI w0 (wu.heap.size + 1) wx.heap.size wu.heap.size pn cn ys tk M (behind (tokOf tk ys) zs) [] q m k w ∧ m ≤ M)
    (fun cd _ D w => cd = Code.exit 0 ∧ ∃ q m k, D = (wu.heap.size + 1) :: blk q ∧ PgI w0 (wu.heap.size + 1) wx.heap.size wu.heap.size pn cn ys tk M (pageOf hexB (entries pf dl os) (tokOf tk ys) M).ents (pageOf hexB (entries pf dl os) (tokOf tk ys) M).next q m k w)
    [wu.heap.size + 1] ?hD0 ?hI ?hIx ⟨none, 0, 0, rfl, HP1.out, Nat.zero_le _⟩ ?round ?done ?stop
  case hD0 =>
    intro d hd
    obtain rfl := List.mem_singleton.1 hd
    have h1 := HXx.out
    have h2 := Hxe.out
    refine ⟨fun hm => ?_, by omega⟩
    have h3 := HMg.out
    have h4 := Hlo.out
    rcases List.mem_cons.1 hm with e | hm
    · omega
    · have := Hcl.out _ hm; omega
  case hI =>
    rintro zs D A B T ⟨q, m, k, rfl, h, hm⟩ ho hT
    exact ⟨q, m, k, rfl, Hst.out _ _ _ _ _ _ _ _ h ho hT, hm⟩
  case hIx =>
    rintro cd zs D A B T ⟨h0, q, m, k, rfl, h⟩ ho hT
    exact ⟨h0, q, m, k, rfl, Hst.out _ _ _ _ _ _ _ _ h ho hT⟩
  case done =>
    rintro D B ⟨q, m, k, rfl, hI, hm⟩ hd hk
    have hpg : pageOf hexB (entries pf dl os) (tokOf tk ys) M = ⟨behind (tokOf tk ys) (entries pf dl os), []⟩ := by
      unfold pageOf
      rw [hI.len, if_neg (by omega), List.take_of_length_le (by rw [hI.len]; exact hm)]
    have hx0 := hI.rx.cell (i := 0) rfl
    have hx1 := hI.rx.cell (i := 1) rfl
    obtain ⟨Hst1, Hk2, Hrow, Hown, HO⟩ := Hfin.out _ _ _ _ _ _ hI hd hk
    have Hpg := Lib.hid hpg
    have HlI := Lib.hid hI.len
    clear hpg hI hd hk
    go_wp2_with (first | ((with_reducible show wpList _ _ _ _ _ _); refine wpl_store (ty := 43) (x := .tmp 10) (y := .tmp 68) rfl rfl rfl rfl Hst1.out ?_))
    exact mret1 Hk2.out (results_c2 rfl _ _ _ rfl Hrow.out Tryd.underlying43 pgInfo) ⟨q, m, k, by rw [Hpg.out]; rfl, by rw [Hpg.out]; exact HlI.out, by rw [Hpg.out]; exact Hown.out, HO.out⟩
  case stop =>
    rintro cd zs D B ⟨rfl, q, m, k, rfl, hI⟩ hd hk
    have hx0 := hI.rx.cell (i := 0) rfl
    have hx1 := hI.rx.cell (i := 1) rfl
    obtain ⟨Hst1, Hk2, Hrow, Hown, HO⟩ := Hfin.out _ _ _ _ _ _ hI hd hk
    have HlI := Lib.hid hI.len
    clear hI hd hk
    go_wp2_with (first | ((with_reducible show wpList _ _ _ _ _ _); refine wpl_store (ty := 43) (x := .tmp 10) (y := .tmp 68) rfl rfl rfl rfl Hst1.out ?_))
    exact mret1 Hk2.out (results_c2 rfl _ _ _ rfl Hrow.out Tryd.underlying43 pgInfo) ⟨q, m, k, rfl, HlI.out, Hown.out, HO.out⟩
  case round =>
    rintro l zs x ts D A vs G hl1 hl2 hDG hG ⟨q, m, k, rfl, hI, hm⟩ hxs ⟨rfl, rfl⟩
    have Hxs := Lib.hid hxs
    have HDG := Lib.hid hDG
    have HI := Lib.hid hI
    obtain ⟨A1, hA1⟩ : ∃ A1, A1 = A.alloc (.cells #[.string (str x.name), .bool x.pre, .int .i64 x.size, .string (str x.etag), .int .i64 x.time] 61) := ⟨_, rfl⟩
    have oA1 : Only [] A A1 := by rw [hA1]; exact Only.alloc _ _
    have rA1 : Row A1 A.heap.size 61 (enCells x) := by rw [hA1]; exact Row.newOf _ _ _ _ rfl
    have HA1 := Lib.hid hA1
    have HoA := Lib.hid oA1
    have HrA := Lib.hid rA1
    unfold enV
    clear hxs hDG hG hI hA1 oA1 rA1
    gi_wp2_with fail
    rw [← HA1.out]
    refine ⟨HoA.out, fun A2 o2 hs2 => ?_⟩
    have oA2 : Only [l] A A2 := (HoA.out.mono (by simp)).trans o2 (fun i hi _ => hi)
    have HI2 := Lib.hid (Hst.out _ _ _ _ _ _ _ _ HI.out oA2 (fun t ht => by obtain rfl := List.mem_singleton.1 ht; exact ⟨fun hm => (HDG.out _ (List.mem_append_left _ hm)).1 rfl, by omega⟩))
    have HrA2 := Lib.hid (HrA.out.only o2 (by simp; omega))
    have HD2 : Hid (∀ d ∈ (wu.heap.size + 1) :: blk q, (d ∈ ((wu.heap.size + 1) :: blk q) ++ [] ∨ A.heap.size ≤ d) ∧ d < A2.heap.size) := Lib.hid (fun d hd => ⟨.inl (List.mem_append_left _ hd), Nat.lt_of_lt_of_le (HDG.out d (List.mem_append_left _ hd)).2 oA2.size⟩)
    have Hbh : Hid (behind (tokOf tk ys) (zs ++ [x]) = behind (tokOf tk ys) zs ++ (if passes (tokOf tk ys) x = true then [x] else [])) := Lib.hid (by
      unfold behind
      rw [List.filter_append]
      congr 1
      by_cases h : passes (tokOf tk ys) x = true
      · rw [if_pos h, List.filter_cons_of_pos h]; rfl
      · rw [if_neg h, List.filter_cons_of_neg h]; rfl)
    have k8 := HI2.out.r8.cell (i := 0) rfl
    have k9 := HI2.out.r9.cell (i := 0) rfl
    have k12 := HI2.out.r12.cell (i := 0) rfl
    have kx := HI2.out.rx.cell (i := 0) rfl
    have z0 := HrA2.out.cell (i := 0) rfl
    clear o2 oA2
    by_cases htk : tk = []
    · have hde : (str tk).toList = [] := by rw [htk, str_toList]
      have Hps : Hid (passes (tokOf tk ys) x = true) := Lib.hid (by unfold tokOf; rw [if_pos htk]; rfl)
      clear htk
      by_cases hmM : m = M
      · have hme : ((m : Int) == (M : Int)) = true := by simp [hmM]
        obtain ⟨lst, hlst⟩ : ∃ lst, (behind (tokOf tk ys) zs)[m - 1]? = some lst := ⟨_, List.getElem?_eq_getElem (by rw [HI2.out.len]; omega)⟩
        have hpg : pageOf hexB (entries pf dl os) (tokOf tk ys) M = ⟨behind (tokOf tk ys) zs, hexB lst.name⟩ := by
          rw [Hxs.out]
          exact page_full hM1 Hps.out (by rw [HI2.out.len, hmM]) (by rw [← hmM]; exact hlst)
        have hll : lst.name.length ≤ 4294967280 := by
          have h1 : lst ∈ entries pf dl os := by
            have h2 := List.mem_of_getElem? hlst
            rw [Hxs.out]
            exact List.mem_append_left _ (List.mem_filter.1 h2).1
          obtain ⟨o, ho, he⟩ := (entries_mem hs _).1 h1
          have h3 := (ent_name he).1.length_le
          have h4 := hk o ho
          omega
        obtain ⟨g, hg, -, -⟩ := HI2.out.own.at (by omega)
        subst hg
        have hle := rd_elem enCells_len HI2.out.own.view.2.2.1 hlst (r := 0) rfl
        rw [Addr.add_lit, Nat.zero_add, Nat.add_zero] at hle
        have hMi : (M : Int) - 1 = ((m - 1 : Nat) : Int) := by omega
        have hMj : ((m - 1 : Nat) : Int) < (m : Int) := by omega
        obtain ⟨gg, cg, wv, hcs, hgg, hrg, hog, -⟩ := conv_str A2 (str lst.name) lst.name rfl lst.name.length rfl
        have hhx := hex_any (some ⟨gg, 0, none⟩) lst.name lst.name.length cg wv rfl (by omega) hrg
        have HIv := Lib.hid (HI2.out.step hog)
        have Hog := Lib.hid hog
        have Hpg := Lib.hid hpg
        have hXA : wu.heap.size + 1 < A2.heap.size := HI2.out.rx.lt
        have HXA := Lib.hid hXA
        have HmM := Lib.hid hmM
        have HwxX := Lib.hid HXx.out
        generalize m - 1 = m1 at *
        clear hll hgg hrg hog hpg hlst hmM hXA hs2
        gi_wp2_with fail
        (with_reducible refine ⟨wideFn _, inR (hhx) ?_⟩)
        rintro e2 w2 ⟨rfl, o2⟩
        clear hhx hcs hle kx k8 k9 k12 z0
        have hI2 := HIv.out.step o2
        have cx2 := hI2.rx.cell (i := 1) rfl
        have fx2 := hI2.rx.free 1
        obtain ⟨w3, hw3⟩ : ∃ w3, w3 = w2.setCell ⟨wu.heap.size + 1, 1, none⟩ (.string (str (hexB lst.name))) := ⟨_, rfl⟩
        have o3 : Only [wu.heap.size + 1] w2 w3 := by rw [hw3]; exact Only.setCell _ ⟨_, _, none⟩ _
        have HIn : Hid (PgI w0 (wu.heap.size + 1) wx.heap.size wu.heap.size pn cn ys tk M (pageOf hexB (entries pf dl os) (tokOf tk ys) M).ents (pageOf hexB (entries pf dl os) (tokOf tk ys) M).next (some ⟨g, 0, none⟩) m k w3) := Lib.hid (by
          rw [Hpg.out]
          have hXx := HwxX.out
          have hl := Hlo.out
          refine ⟨by rw [hw3]; exact hI2.rx.setCell 1 _, hI2.own.only o3 (fun x hx hm => by have h4 := (hI2.own.view.2.2.2.2.2.2 x (ownBlkF hx)).1; have h5 := List.mem_singleton.1 hm; omega), hI2.len, hI2.r8.only o3 (fun hm => by have h5 := List.mem_singleton.1 hm; omega), hI2.r9.only o3 (fun hm => by have h5 := List.mem_singleton.1 hm; omega), hI2.r10.only o3 (fun hm => by have h5 := List.mem_singleton.1 hm; omega), hI2.r12.only o3 (fun hm => by have h5 := List.mem_singleton.1 hm; omega), hI2.nm.only o3 (fun a ha hm => by have h5 := List.mem_singleton.1 hm; have := Hpl.out a ha; omega), hI2.only.transN o3 (fun t ht => by have h5 := List.mem_singleton.1 ht; have := hI2.only.size; have := HO4.out.size; omega)⟩)
        have HO := Lib.hid (((Hog.out.trans0 o2).mono (T := [wu.heap.size + 1]) (by simp)).trans o3 (fun i hi _ => hi))
        have Hw3 := Lib.hid hw3
        clear hI2 o2 o3 hw3
        unfold str at Hw3
        gi_wp2_with fail
        rw [← Hw3.out]
        exact ⟨[wu.heap.size + 1], _, HO.out, fun s hs => .inl (by have := List.mem_singleton.1 hs; subst this; simp), fun d hd => ⟨(HD2.out d hd).1, Nat.lt_of_lt_of_le (HD2.out d hd).2 HO.out.size⟩, rfl, some ⟨g, 0, none⟩, m, k, rfl, HIn.out⟩
      · have hme : ((m : Int) == (M : Int)) = false := by simp; omega
        have z1 := HrA2.out.cell (i := 1) rfl
        have z2 := HrA2.out.cell (i := 2) rfl
        have z3 := HrA2.out.cell (i := 3) rfl
        have z4 := HrA2.out.cell (i := 4) rfl
        have hA2 : A.heap.size < A2.heap.size := HrA2.out.lt
        obtain ⟨p2, k2, w2, Hr, own', o', hat⟩ := push_en _ x HI2.out.own (by have := Hxe.out; omega) (by omega)
        have hqB : ∀ x ∈ blk q, wx.heap.size ≤ x := Hblk.out _ _ _ _ _ _ HI2.out
        have rx2 := HI2.out.rx.only o' (fun hm => by have := hqB _ hm; have := HXx.out; omega)
        have f2 := rx2.free 0
        have c2' := rx2.cell (i := 0) rfl
        obtain ⟨w3, hw3⟩ : ∃ w3, w3 = w2.setCell ⟨wu.heap.size + 1, 0, none⟩ (.slice p2 (m + 1) k2) := ⟨_, rfl⟩
        have o3 : Only [wu.heap.size + 1] w2 w3 := by rw [hw3]; exact Only.setCell _ ⟨_, _, none⟩ _
        have hp2B : ∀ x ∈ blk p2, wx.heap.size ≤ x ∧ x < w2.heap.size := fun x hx => own'.view.2.2.2.2.2.2 x hx
        have hp2at : ∀ x ∈ blk p2, x ∈ blk q ∨ A2.heap.size ≤ x := fun x hx => by
          rcases hat with rfl | ⟨g, rfl, hg⟩
          · exact .inl hx
          · simp [blk] at hx; subst hx; exact .inr hg
        have HIn : Hid (PgI w0 (wu.heap.size + 1) wx.heap.size wu.heap.size pn cn ys tk M (behind (tokOf tk ys) (zs ++ [x])) [] p2 (m + 1) k2 w3) := Lib.hid (by
          rw [Hbh.out, if_pos Hps.out]
          have hXx := HXx.out
          have hl := Hlo.out
          have hI2 := HI2.out
          refine ⟨by rw [hw3]; exact rx2.setCell 0 _, own'.only o3 (fun x hx hm => by have h4 := (hp2B x (ownBlkF hx)).1; have h5 := List.mem_singleton.1 hm; omega), by rw [List.length_append, hI2.len]; rfl, ?_, ?_, ?_, ?_, ?_, (hI2.only.transN o' (fun t ht => by have := hqB t ht; have := HOx.out.size; omega)).transN o3 (fun t ht => by have h5 := List.mem_singleton.1 ht; have := HO4.out.size; omega)⟩
          · exact (hI2.r8.only o' (fun hm => by have := hqB _ hm; omega)).only o3 (fun hm => by have h5 := List.mem_singleton.1 hm; omega)
          · exact (hI2.r9.only o' (fun hm => by have := hqB _ hm; omega)).only o3 (fun hm => by have h5 := List.mem_singleton.1 hm; omega)
          · exact (hI2.r10.only o' (fun hm => by have := hqB _ hm; omega)).only o3 (fun hm => by have h5 := List.mem_singleton.1 hm; omega)
          · exact (hI2.r12.only o' (fun hm => by have := hqB _ hm; omega)).only o3 (fun hm => by have h5 := List.mem_singleton.1 hm; omega)
          · exact (hI2.nm.only o' (fun a ha hm => by have := hqB _ hm; have := Hpl.out a ha; omega)).only o3 (fun a ha hm => by have h5 := List.mem_singleton.1 hm; have := Hpl.out a ha; omega))
        have HO : Hid (Only ((wu.heap.size + 1) :: blk q) A2 w3) := Lib.hid ((o'.mono (fun k hk => List.mem_cons_of_mem _ hk)).trans o3 (fun i hi _ => by have := List.mem_singleton.1 hi; subst this; simp))
        have Hss : Hid (w2.heap.size ≤ w3.heap.size ∧ A2.heap.size ≤ w3.heap.size ∧ A.heap.size ≤ A2.heap.size ∧ wu.heap.size + 1 < A2.heap.size) := Lib.hid ⟨o3.size, HO.out.size, by omega, HI2.out.rx.lt⟩
        have Hp2B := Lib.hid hp2B
        have Hp2at := Lib.hid hp2at
        have HmM := Lib.hid hmM
        have Hw3 := Lib.hid hw3
        clear own' o' hat rx2 hqB hw3 hs2 o3 hp2B hp2at hmM
        gi_wp2_with (first | (gi_at_builtin; refine wpli_append (s := .tmp 63) (x := .tmp 65) (fun _ => trivial) rfl rfl rfl rfl Hr.out ?_))
        rw [← Hw3.out]
        refine ⟨(wu.heap.size + 1) :: blk q, (wu.heap.size + 1) :: blk p2, HO.out, fun s hs => .inl (List.mem_append_left _ hs), fun d hd => ?_, p2, m + 1, k2, rfl, HIn.out, by have := HmM.out; omega⟩
        obtain ⟨h1, h2, h3, h4⟩ := Hss.out
        rcases List.mem_cons.1 hd with rfl | hd
        · exact ⟨.inl (by simp), by omega⟩
        · refine ⟨?_, by have := (Hp2B.out d hd).2; omega⟩
          rcases Hp2at.out d hd with h | h
          · exact .inl (List.mem_append_left _ (List.mem_cons_of_mem _ h))
          · exact .inr (by omega)
    · have hde2 : (str tk).toList.isEmpty = false := by rw [str_toList]; cases tk with | nil => exact absurd rfl htk | cons x l => rfl
      have hde3 : ¬ (str tk).toList = [] := by rw [str_toList]; exact htk
      have hcv : (convert 22 9 (.slice pn ys.length cn)).run Tryd.prog A2 = .ok (.string (str ys)) A2 := conv_bytes (P := Tryd.prog) A2 Tryd.underlying22 Tryd.underlying5 Tryd.underlying9 HI2.out.nm rfl Hpn.out
      have hcl := str_ltb x.name ys
      have hcc := str_eqb x.name ys
      have hps : passes (tokOf tk ys) x = !(decide (lt x.name ys) || decide (x.name = ys)) := by
        unfold tokOf passes
        rw [if_neg htk]
        rw [← hcl, ← hcc, str_toList, str_toList]
      clear htk
      by_cases hA : lt x.name ys
      · rw [decide_eq_true hA] at hcl hps
        have Hb2 : Hid (behind (tokOf tk ys) (zs ++ [x]) = behind (tokOf tk ys) zs) := Lib.hid (by rw [Hbh.out, if_neg (by rw [hps]; simp), List.append_nil])
        clear hA hcc hps
        gi_wp2_with fail
        exact ⟨[], _, Only.refl _ _, by simp, HD2.out, q, m, k, rfl, by rw [Hb2.out]; exact HI2.out, hm⟩
      · rw [decide_eq_false hA] at hcl hps
        by_cases hB : x.name = ys
        · rw [decide_eq_true hB] at hcc hps
          have Hb2 : Hid (behind (tokOf tk ys) (zs ++ [x]) = behind (tokOf tk ys) zs) := Lib.hid (by rw [Hbh.out, if_neg (by rw [hps]; simp), List.append_nil])
          clear hA hB hps
          gi_wp2_with fail
          exact ⟨[], _, Only.refl _ _, by simp, HD2.out, q, m, k, rfl, by rw [Hb2.out]; exact HI2.out, hm⟩
        · rw [decide_eq_false hB] at hcc hps
          have Hps : Hid (passes (tokOf tk ys) x = true) := Lib.hid hps
          clear hA hB hps
          by_cases hmM : m = M
          · have hme : ((m : Int) == (M : Int)) = true := by simp [hmM]
            obtain ⟨lst, hlst⟩ : ∃ lst, (behind (tokOf tk ys) zs)[m - 1]? = some lst := ⟨_, List.getElem?_eq_getElem (by rw [HI2.out.len]; omega)⟩
            have hpg : pageOf hexB (entries pf dl os) (tokOf tk ys) M = ⟨behind (tokOf tk ys) zs, hexB lst.name⟩ := by
              rw [Hxs.out]
              exact page_full hM1 Hps.out (by rw [HI2.out.len, hmM]) (by rw [← hmM]; exact hlst)
            have hll : lst.name.length ≤ 4294967280 := by
              have h1 : lst ∈ entries pf dl os := by
                have h2 := List.mem_of_getElem? hlst
                rw [Hxs.out]
                exact List.mem_append_left _ (List.mem_filter.1 h2).1
              obtain ⟨o, ho, he⟩ := (entries_mem hs _).1 h1
              have h3 := (ent_name he).1.length_le
              have h4 := hk o ho
              omega
            obtain ⟨g, hg, -, -⟩ := HI2.out.own.at (by omega)
            subst hg
            have hle := rd_elem enCells_len HI2.out.own.view.2.2.1 hlst (r := 0) rfl
            rw [Addr.add_lit, Nat.zero_add, Nat.add_zero] at hle
            have hMi : (M : Int) - 1 = ((m - 1 : Nat) : Int) := by omega
            have hMj : ((m - 1 : Nat) : Int) < (m : Int) := by omega
            obtain ⟨gg, cg, wv, hcs, hgg, hrg, hog, -⟩ := conv_str A2 (str lst.name) lst.name rfl lst.name.length rfl
            have hhx := hex_any (some ⟨gg, 0, none⟩) lst.name lst.name.length cg wv rfl (by omega) hrg
            have HIv := Lib.hid (HI2.out.step hog)
            have Hog := Lib.hid hog
            have Hpg := Lib.hid hpg
            have hXA : wu.heap.size + 1 < A2.heap.size := HI2.out.rx.lt
            have HXA := Lib.hid hXA
            have HmM := Lib.hid hmM
            have HwxX := Lib.hid HXx.out
            generalize m - 1 = m1 at *
            clear hll hgg hrg hog hpg hlst hmM hXA hs2
            gi_wp2_with fail
            (with_reducible refine ⟨wideFn _, inR (hhx) ?_⟩)
            rintro e2 w2 ⟨rfl, o2⟩
            clear hhx hcs hle kx k8 k9 k12 z0
            have hI2 := HIv.out.step o2
            have cx2 := hI2.rx.cell (i := 1) rfl
            have fx2 := hI2.rx.free 1
            obtain ⟨w3, hw3⟩ : ∃ w3, w3 = w2.setCell ⟨wu.heap.size + 1, 1, none⟩ (.string (str (hexB lst.name))) := ⟨_, rfl⟩
            have o3 : Only [wu.heap.size + 1] w2 w3 := by rw [hw3]; exact Only.setCell _ ⟨_, _, none⟩ _
            have HIn : Hid (PgI w0 (wu.heap.size + 1) wx.heap.size wu.heap.size pn cn ys tk M (pageOf hexB (entries pf dl os) (tokOf tk ys) M).ents (pageOf hexB (entries pf dl os) (tokOf tk ys) M).next (some ⟨g, 0, none⟩) m k w3) := Lib.hid (by
              rw [Hpg.out]
              have hXx := HwxX.out
              have hl := Hlo.out
              refine ⟨by rw [hw3]; exact hI2.rx.setCell 1 _, hI2.own.only o3 (fun x hx hm => by have h4 := (hI2.own.view.2.2.2.2.2.2 x (ownBlkF hx)).1; have h5 := List.mem_singleton.1 hm; omega), hI2.len, hI2.r8.only o3 (fun hm => by have h5 := List.mem_singleton.1 hm; omega), hI2.r9.only o3 (fun hm => by have h5 := List.mem_singleton.1 hm; omega), hI2.r10.only o3 (fun hm => by have h5 := List.mem_singleton.1 hm; omega), hI2.r12.only o3 (fun hm => by have h5 := List.mem_singleton.1 hm; omega), hI2.nm.only o3 (fun a ha hm => by have h5 := List.mem_singleton.1 hm; have := Hpl.out a ha; omega), hI2.only.transN o3 (fun t ht => by have h5 := List.mem_singleton.1 ht; have := hI2.only.size; have := HO4.out.size; omega)⟩)
            have HO := Lib.hid (((Hog.out.trans0 o2).mono (T := [wu.heap.size + 1]) (by simp)).trans o3 (fun i hi _ => hi))
            have Hw3 := Lib.hid hw3
            clear hI2 o2 o3 hw3
            unfold str at Hw3
            gi_wp2_with fail
            rw [← Hw3.out]
            exact ⟨[wu.heap.size + 1], _, HO.out, fun s hs => .inl (by have := List.mem_singleton.1 hs; subst this; simp), fun d hd => ⟨(HD2.out d hd).1, Nat.lt_of_lt_of_le (HD2.out d hd).2 HO.out.size⟩, rfl, some ⟨g, 0, none⟩, m, k, rfl, HIn.out⟩
          · have hme : ((m : Int) == (M : Int)) = false := by simp; omega
            have z1 := HrA2.out.cell (i := 1) rfl
            have z2 := HrA2.out.cell (i := 2) rfl
            have z3 := HrA2.out.cell (i := 3) rfl
            have z4 := HrA2.out.cell (i := 4) rfl
            have hA2 : A.heap.size < A2.heap.size := HrA2.out.lt
            obtain ⟨p2, k2, w2, Hr, own', o', hat⟩ := push_en _ x HI2.out.own (by have := Hxe.out; omega) (by omega)
            have hqB : ∀ x ∈ blk q, wx.heap.size ≤ x := Hblk.out _ _ _ _ _ _ HI2.out
            have rx2 := HI2.out.rx.only o' (fun hm => by have := hqB _ hm; have := HXx.out; omega)
            have f2 := rx2.free 0
            have c2' := rx2.cell (i := 0) rfl
            obtain ⟨w3, hw3⟩ : ∃ w3, w3 = w2.setCell ⟨wu.heap.size + 1, 0, none⟩ (.slice p2 (m + 1) k2) := ⟨_, rfl⟩
            have o3 : Only [wu.heap.size + 1] w2 w3 := by rw [hw3]; exact Only.setCell _ ⟨_, _, none⟩ _
            have hp2B : ∀ x ∈ blk p2, wx.heap.size ≤ x ∧ x < w2.heap.size := fun x hx => own'.view.2.2.2.2.2.2 x hx
            have hp2at : ∀ x ∈ blk p2, x ∈ blk q ∨ A2.heap.size ≤ x := fun x hx => by
              rcases hat with rfl | ⟨g, rfl, hg⟩
              · exact .inl hx
              · simp [blk] at hx; subst hx; exact .inr hg
            have HIn : Hid (PgI w0 (wu.heap.size + 1) wx.heap.size wu.heap.size pn cn ys tk M (behind (tokOf tk ys) (zs ++ [x])) [] p2 (m + 1) k2 w3) := Lib.hid (by
              rw [Hbh.out, if_pos Hps.out]
              have hXx := HXx.out
              have hl := Hlo.out
              have hI2 := HI2.out
              refine ⟨by rw [hw3]; exact rx2.setCell 0 _, own'.only o3 (fun x hx hm => by have h4 := (hp2B x (ownBlkF hx)).1; have h5 := List.mem_singleton.1 hm; omega), by rw [List.length_append, hI2.len]; rfl, ?_, ?_, ?_, ?_, ?_, (hI2.only.transN o' (fun t ht => by have := hqB t ht; have := HOx.out.size; omega)).transN o3 (fun t ht => by have h5 := List.mem_singleton.1 ht; have := HO4.out.size; omega)⟩
              · exact (hI2.r8.only o' (fun hm => by have := hqB _ hm; omega)).only o3 (fun hm => by have h5 := List.mem_singleton.1 hm; omega)
              · exact (hI2.r9.only o' (fun hm => by have := hqB _ hm; omega)).only o3 (fun hm => by have h5 := List.mem_singleton.1 hm; omega)
              · exact (hI2.r10.only o' (fun hm => by have := hqB _ hm; omega)).only o3 (fun hm => by have h5 := List.mem_singleton.1 hm; omega)
              · exact (hI2.r12.only o' (fun hm => by have := hqB _ hm; omega)).only o3 (fun hm => by have h5 := List.mem_singleton.1 hm; omega)
              · exact (hI2.nm.only o' (fun a ha hm => by have := hqB _ hm; have := Hpl.out a ha; omega)).only o3 (fun a ha hm => by have h5 := List.mem_singleton.1 hm; have := Hpl.out a ha; omega))
            have HO : Hid (Only ((wu.heap.size + 1) :: blk q) A2 w3) := Lib.hid ((o'.mono (fun k hk => List.mem_cons_of_mem _ hk)).trans o3 (fun i hi _ => by have := List.mem_singleton.1 hi; subst this; simp))
            have Hss : Hid (w2.heap.size ≤ w3.heap.size ∧ A2.heap.size ≤ w3.heap.size ∧ A.heap.size ≤ A2.heap.size ∧ wu.heap.size + 1 < A2.heap.size) := Lib.hid ⟨o3.size, HO.out.size, by omega, HI2.out.rx.lt⟩
            have Hp2B := Lib.hid hp2B
            have Hp2at := Lib.hid hp2at
            have HmM := Lib.hid hmM
            have Hw3 := Lib.hid hw3
            clear own' o' hat rx2 hqB hw3 hs2 o3 hp2B hp2at hmM
            gi_wp2_with (first | (gi_at_builtin; refine wpli_append (s := .tmp 63) (x := .tmp 65) (fun _ => trivial) rfl rfl rfl rfl Hr.out ?_))
            rw [← Hw3.out]
            refine ⟨(wu.heap.size + 1) :: blk q, (wu.heap.size + 1) :: blk p2, HO.out, fun s hs => .inl (List.mem_append_left _ hs), fun d hd => ?_, p2, m + 1, k2, rfl, HIn.out, by have := HmM.out; omega⟩
            obtain ⟨h1, h2, h3, h4⟩ := Hss.out
            rcases List.mem_cons.1 hd with rfl | hd
            · exact ⟨.inl (by simp), by omega⟩
            · refine ⟨?_, by have := (Hp2B.out d hd).2; omega⟩
              rcases Hp2at.out d hd with h | h
              · exact .inl (List.mem_append_left _ (List.mem_cons_of_mem _ h))
              · exact .inr (by omega)
end Go.Proofs.YtfoplbolbjcggaaDoor
