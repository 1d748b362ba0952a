/- The walk of bollardref20.Page. -/
import Derived.Test.YtfoplbolbjcggaaDoorRefEntW
import Derived.Test.YtfoplbolbjcggaaDoorSameW
import Derived.Test.YtfoplbolbjcggaaDoorPushEn
import Derived.Test.YtfoplbolbjcggaaDoorRefUnhexW
set_option linter.unusedVariables false
set_option maxRecDepth 100000
namespace Go.Proofs.YtfoplbolbjcggaaDoor
open Go.RowKit

def tokOf (tk name : Bs) : Option Bs := if tk = [] then none else some name
theorem pgInfo : (Tryd.prog.info? 43).map (·.size) = some 2 := by kernel_rfl
structure RpI (w0 : World) (X BB : Nat) (ents : List En) (next : Bs) (q : Option Addr) (m k : Nat) (w : World) : Prop where
  rx : Row w X 43 [.slice q m k, .string (str next)]
  own : OwnK w BB 61 5 (.slice q m k) m (ents.flatMap enCells)
  len : ents.length = m
  r10 : Row w (w0.heap.size + 1) 43 [.slice none 0 0, .string (str [])]
  only : Only [] w0 w
theorem RpI.step {w0 w w' : World} {X BB : Nat} {ents : List En} {next : Bs} {q : Option Addr} {m k : Nat} (h : RpI w0 X BB ents next q m k w) (ho : Only [] w w') : RpI w0 X BB ents next q m k w' := ⟨h.rx.only0 ho, h.own.only0 ho, h.len, h.r10.only0 ho, h.only.trans0 ho⟩
/-- one entry more -/
theorem page_step {E : List En} {nm : Option Bs} {M i : Nat} {e : En} (hM : 1 ≤ M) (he : E[i]? = some e) :
    (passes nm e = false → pageOf hexB (E.take (i + 1)) nm M = pageOf hexB (E.take i) nm M) ∧
    (passes nm e = true → (behind nm (E.take i)).length < M → (pageOf hexB (E.take (i + 1)) nm M).ents = (pageOf hexB (E.take i) nm M).ents ++ [e] ∧ (pageOf hexB (E.take (i + 1)) nm M).next = (pageOf hexB (E.take i) nm M).next) ∧
    (passes nm e = true → M ≤ (behind nm (E.take i)).length → (pageOf hexB (E.take (i + 1)) nm M).ents = (pageOf hexB (E.take i) nm M).ents ∧ ∃ l, (pageOf hexB (E.take i) nm M).ents[M - 1]? = some l ∧ (pageOf hexB (E.take (i + 1)) nm M).next = hexB l.name ∧ ((pageOf hexB (E.take i) nm M).next = [] ∨ (pageOf hexB (E.take i) nm M).next = hexB l.name)) := by
  unfold pageOf
  rw [behind_succ he]
  generalize behind nm (E.take i) = B
  refine ⟨fun hp => by rw [if_neg (by rw [hp]; simp), List.append_nil], fun hp hl => ?_, fun hp hl => ?_⟩
  · rw [if_pos hp]
    dsimp only
    rw [List.length_append, List.length_singleton, if_neg (by omega), if_neg (by omega), List.take_of_length_le (by rw [List.length_append, List.length_singleton]; omega), List.take_of_length_le (by omega)]
    exact ⟨rfl, rfl⟩
  · rw [if_pos hp]
    dsimp only
    have hl1 : (B ++ [e]).length = B.length + 1 := by simp
    obtain ⟨l, hlm⟩ : ∃ l, B[M - 1]? = some l := ⟨_, List.getElem?_eq_getElem (by omega)⟩
    rw [hl1, if_pos (by omega), List.take_append_of_le_length hl, List.getElem?_append_left (by omega), hlm]
    refine ⟨rfl, l, by rw [List.getElem?_take, if_pos (by omega)]; exact hlm, rfl, ?_⟩
    by_cases h : M < B.length
    · rw [if_pos h]; exact .inr rfl
    · rw [if_neg h]; exact .inl rfl
theorem page_len {E : List En} {nm : Option Bs} {M i : Nat} : (pageOf hexB (E.take i) nm M).ents.length = min M (behind nm (E.take i)).length := by
  unfold pageOf
  rw [List.length_take]
set_option maxHeartbeats 16000000 in
theorem refPage_ok (nm : ByteArray) (tt dd : Int) (u : Value) (hu : u.oneCell' = true) (p : Option Addr) (os : List Ob) (n c M : Nat) (pf dl tk name : Bs) (w0 : World) (hn : os.length = n) (hb : n ≤ 1000) (hp : p = none → n = 0 ∧ c = 0) (hx : Rd w0 p (os.flatMap obCells)) (hs : SortedK os) (hk : ∀ o ∈ os, o.key.length ≤ 4294967280) (hpl : pf.length ≤ 140737488351232) (hdl : dl.length ≤ 140737488351232) (htl : tk.length ≤ 140737488351232) (hM1 : 1 ≤ M) (hM2 : M ≤ 100) (hun : unhexB tk = some name) :
    Calls Tryd.prog 24 #[bkV' nm tt dd p n c u, .string (str pf), .string (str dl), .string (str tk), .int .i64 (M : Int)] w0 fun e w' => ∃ q m k, e = .returned (.tuple #[pgV q m k (str (pageOf hexB (entriesD pf dl os) (tokOf tk name) M).next), .int .i64 0]) ∧ (pageOf hexB (entriesD pf dl os) (tokOf tk name) M).ents.length = m ∧ OwnK w' w0.heap.size 61 5 (.slice q m k) m ((pageOf hexB (entriesD pf dl os) (tokOf tk name) M).ents.flatMap enCells) ∧ Only [] w0 w' := by
  obtain ⟨E, hE⟩ : ∃ E, entriesD pf dl os = E := ⟨_, rfl⟩
  rw [hE]
  have HEe := Lib.hid hE
  clear hE
  obtain ⟨w1, hw1⟩ : ∃ w1, w1 = w0.alloc (.cells #[.string nm, .int .i64 tt, .int .i64 dd, .slice p n c, u] 39) := ⟨_, rfl⟩
  obtain ⟨w2, hw2⟩ : ∃ w2, w2 = w1.alloc (.cells #[.slice none 0 0, .string ⟨#[]⟩] 43) := ⟨_, rfl⟩
  have o1 : Only [] w0 w1 := by rw [hw1]; exact Only.alloc _ _
  have o2 : Only [] w1 w2 := by rw [hw2]; exact Only.alloc _ _
  have s1 : w1.heap.size = w0.heap.size + 1 := by rw [hw1]; simp
  have r1 : Row w2 w0.heap.size 39 [.string nm, .int .i64 tt, .int .i64 dd, .slice p n c, u] := by
    have : Row w1 w0.heap.size 39 [.string nm, .int .i64 tt, .int .i64 dd, .slice p n c, u] := by rw [hw1]; exact Row.newOf _ _ _ _ rfl
    exact this.only0 o2
  have r2 : Row w2 (w0.heap.size + 1) 43 [.slice none 0 0, .string (str [])] := by rw [← s1, hw2]; exact Row.newOf _ _ _ _ rfl
  have huh := refUnhex_any tk (str tk) rfl w2 (by omega)
  have hm1 : ¬ (M : Int) < 1 := by omega
  have hm2 : ¬ (100 : Int) < (M : Int) := by omega
  have HO2 := Lib.hid (o1.trans0 o2)
  have HR1 := Lib.hid r1
  have HR2 := Lib.hid r2
  have Hw1 := Lib.hid hw1
  have Hw2 := Lib.hid hw2
  have Hx := Lib.hid hx
  have Hun := Lib.hid hun
  have Hus := Lib.hid hu
  unfold bkV'
  clear o1 o2 s1 r1 r2 hw1 hw2 hx hun hu
  go_enter Tryd.func24, Tryd.ntmps24
  go_upto_region 3 with (fail)
  rw [← Hw1.out, ← Hw2.out]
  clear Hw1 Hw2
  go_wp2_with fail
  refine huh.mono ?_
  clear huh
  rintro e wu ⟨pn, cn, ys, ok, rfl, own, ou, hok⟩
  obtain ⟨rfl, hys⟩ : ok = true ∧ ys = name := by
    rcases hok with ⟨h1, h2⟩ | ⟨h1, h2, h3⟩
    · rw [Hun.out] at h2; exact ⟨h1, (Option.some.inj h2).symm⟩
    · rw [Hun.out] at h3; cases h3
  subst hys
  obtain ⟨wx, hwx⟩ : ∃ wx, wx = wu.alloc (.cells #[.slice none 0 0, .string ⟨#[]⟩] 43) := ⟨_, rfl⟩
  have ox : Only [] wu wx := by rw [hwx]; exact Only.alloc _ _
  have rx : Row wx wu.heap.size 43 [.slice none 0 0, .string (str [])] := by rw [hwx]; exact Row.newOf _ _ _ _ rfl
  have HOx := Lib.hid ((HO2.out.trans0 ou).trans0 ox)
  have HRx := Lib.hid rx
  have HR1x := Lib.hid ((HR1.out.only0 ou).only0 ox)
  have HR2u := Lib.hid (HR2.out.only0 ou)
  have HR2x := Lib.hid ((HR2.out.only0 ou).only0 ox)
  have Hownx := Lib.hid (own.only0 ox)
  have Hpn : Hid (∀ a, pn = some a → a.block < wu.heap.size) := Lib.hid (fun a ha => (own.view.2.2.2.2.2 a ha).2)
  have hre := refEntries_any nm tt dd u Hus.out p os n c pf dl wx hn hb hp (Hx.out.only0 HOx.out) hs hk hpl hdl
  unfold bkV' at hre
  rw [HEe.out] at hre
  have c0 := HR1x.out.cell (i := 0) rfl
  have c1 := HR1x.out.cell (i := 1) rfl
  have c2 := HR1x.out.cell (i := 2) rfl
  have c3 := HR1x.out.cell (i := 3) rfl
  have c4 := HR1x.out.cell (i := 4) rfl
  have Hwx := Lib.hid hwx
  clear hok own ou hwx ox rx HR1 HR2
  go_upto_region 7 with (fail)
  rw [← Hwx.out]
  clear Hwx
  go_wp2_with fail
  refine hre.mono ?_
  clear hre c0 c1 c2 c3 c4
  rintro e we ⟨qe, me, ke, rfl, hlE, ownE, oe⟩
  have hnl : ∀ e ∈ E, e.name.length ≤ 4294967280 := fun e he => by
    rw [← HEe.out, ← entries_doc hs, entries_mem hs] at he
    obtain ⟨o, ho, he⟩ := he
    have h1 := (ent_name he).1.length_le
    have h2 := hk o ho
    omega
  have hml : me ≤ 1000 := by have h1 := entriesD_len pf dl os; rw [HEe.out] at h1; omega
  have HE := Lib.hid ownE.view.2.2.1
  have HlE := Lib.hid hlE
  have Hnl := Lib.hid hnl
  have hXw : wu.heap.size < wx.heap.size := HRx.out.lt
  have hxe : wx.heap.size ≤ we.heap.size := oe.size
  have HI0 : Hid (RpI w0 wu.heap.size we.heap.size (pageOf hexB (E.take 0) (tokOf tk ys) M).ents (pageOf hexB (E.take 0) (tokOf tk ys) M).next none 0 0 we) := Lib.hid (by
    have h0 : pageOf hexB (E.take 0) (tokOf tk ys) M = ⟨[], []⟩ := by unfold pageOf behind; simp
    rw [h0]
    exact ⟨HRx.out.only0 oe, OwnK.nil _ _ _ _, rfl, HR2x.out.only0 oe, HOx.out.trans0 oe⟩)
  have HNm := Lib.hid (Hownx.out.only0 oe)
  have hpnl : ∀ a, pn = some a → a.block < wu.heap.size := fun a ha => by
    have h1 := (Hownx.out).view.2.2.2.2.2 a ha
    exact Hpn.out a ha
  have Hpnl := Lib.hid hpnl
  have hqel : ∀ a, qe = some a → a.block < we.heap.size := fun a ha => (ownE.view.2.2.2.2.2.2 a.block (by rw [ha]; simp [blk])).2
  have hqex : ∀ a, qe = some a → wx.heap.size ≤ a.block := fun a ha => (ownE.view.2.2.2.2.2.2 a.block (by rw [ha]; simp [blk])).1
  have Hqel := Lib.hid hqel
  have Hqex := Lib.hid hqex
  have H10 : Hid (w0.heap.size + 1 < wu.heap.size) := Lib.hid (HR2u.out.lt)
  clear ownE hlE hnl oe hpnl hqel hqex
  go_wp2_with fail
  go_loopw [38] (fun v wr => ∃ (i : Nat) (q : Option Addr) (m k : Nat), v = .int .i64 (i : Int) ∧ i ≤ me ∧ Hid (RpI w0 wu.heap.size we.heap.size (pageOf hexB (E.take i) (tokOf tk ys) M).ents (pageOf hexB (E.take i) (tokOf tk ys) M).next q m k wr) ∧ Hid (Only [wu.heap.size] we wr ∨ True) ∧ Hid (∀ p' vs, Rd we p' vs → (∀ a, p' = some a → a.block < we.heap.size ∧ a.block ≠ wu.heap.size) → Rd wr p' vs) ∧ Hid (we.heap.size ≤ wr.heap.size)) (fun v _ => me + 1 - (intOf v).toNat)
  case atStart => exact ⟨0, none, 0, 0, rfl, Nat.zero_le _, HI0, Lib.hid (.inr trivial), Lib.hid (fun _ _ h _ => h), Lib.hid (Nat.le_refl _)⟩
  case round =>
    clear HI0
    obtain ⟨i, q, m, k, rfl, hi, HI, -, Hkeep, Hsz⟩ := hrel
    by_cases hlt : i < me
    · obtain ⟨e, he⟩ : ∃ e, E[i]? = some e := ⟨_, List.getElem?_eq_getElem (by rw [HlE.out]; exact hlt)⟩
      obtain ⟨st1, st2, st3⟩ := page_step (nm := tokOf tk ys) hM1 he
      have hlenB := page_len (E := E) (nm := tokOf tk ys) (M := M) (i := i)
      have hrdE := Hkeep.out _ _ HE.out (fun a ha => ⟨Hqel.out a ha, fun e => by have := Hqex.out a ha; omega⟩)
      have hne : E.flatMap enCells ≠ [] := fun e' => by have := flat_get enCells 5 enCells_len E i e 0 he (by omega); rw [e'] at this; cases this
      obtain ⟨b, off, rfl, -⟩ := hrdE.lt hne
      have x0 := rd_elem enCells_len hrdE he (r := 0) rfl
      have x1 := rd_elem enCells_len hrdE he (r := 1) rfl
      have x2 := rd_elem enCells_len hrdE he (r := 2) rfl
      have x3 := rd_elem enCells_len hrdE he (r := 3) rfl
      have x4 := rd_elem enCells_len hrdE he (r := 4) rfl
      rw [Addr.add_lit, ← Nat.add_assoc] at x0 x1 x2 x3 x4
      rw [Nat.add_zero] at x0
      obtain ⟨wt, hwt⟩ : ∃ wt, wt = wr.alloc (.cells #[.string (str e.name), .bool e.pre, .int .i64 e.size, .string (str e.etag), .int .i64 e.time] 61) := ⟨_, rfl⟩
      have ot : Only [] wr wt := by rw [hwt]; exact Only.alloc _ _
      have rt : Row wt wr.heap.size 61 (enCells e) := by rw [hwt]; exact Row.newOf _ _ _ _ rfl
      have HIt := Lib.hid (HI.out.step ot)
      have Hrt := Lib.hid rt
      have Hwt := Lib.hid hwt
      have Hot := Lib.hid ot
      have Hnle : Hid (e.name.length ≤ 4294967280) := Lib.hid (Hnl.out e (List.mem_of_getElem? he))
      have St1 := Lib.hid st1
      have St2 := Lib.hid st2
      have St3 := Lib.hid st3
      have HlB := Lib.hid hlenB
      clear st1 st2 st3 hlenB hrdE hne he hwt ot rt
      go_upto_region 10 with (fail)
      rw [← Hwt.out]
      clear Hwt x0 x1 x2 x3 x4
      have z0 := Hrt.out.cell (i := 0) rfl
      by_cases htk : tk = []
      · have hde : (str tk).toList = [] := by rw [htk, str_toList]
        have Hps : Hid (passes (tokOf tk ys) e = true) := Lib.hid (by unfold tokOf; rw [if_pos htk]; rfl)
        clear htk
        go_upto_region 11 with (fail)
        have z0 := Hrt.out.cell (i := 0) rfl
        have z1 := Hrt.out.cell (i := 1) rfl
        have z2 := Hrt.out.cell (i := 2) rfl
        have z3 := Hrt.out.cell (i := 3) rfl
        have z4 := Hrt.out.cell (i := 4) rfl
        have hx0 := HIt.out.rx.cell (i := 0) rfl
        have hXB : wu.heap.size < we.heap.size := by omega
        have hszt : we.heap.size ≤ wt.heap.size := Nat.le_trans Hsz.out Hot.out.size
        have hqB : ∀ x ∈ blk q, we.heap.size ≤ x := fun x hx => (HIt.out.own.view.2.2.2.2.2.2 x hx).1
        rcases Nat.lt_or_ge (behind (tokOf tk ys) (E.take i)).length M with hB | hB
        · obtain ⟨h1, h2⟩ := St2.out Hps.out hB
          have hmB : m = (behind (tokOf tk ys) (E.take i)).length := by rw [← HIt.out.len, HlB.out]; omega
          have hmM : (m : Int) < (M : Int) := by omega
          obtain ⟨p', k', w2, Hr, own', o', hat⟩ := push_en _ e HIt.out.own hszt (by omega)
          have rx2 := HIt.out.rx.only o' (fun hm => by have := hqB _ hm; omega)
          have f2 := rx2.free 0
          have c2 := rx2.cell (i := 0) rfl
          obtain ⟨w3, hw3⟩ : ∃ w3, w3 = w2.setCell ⟨wu.heap.size, 0, none⟩ (.slice p' (m + 1) k') := ⟨_, rfl⟩
          have o3 : Only [wu.heap.size] w2 w3 := by rw [hw3]; exact Only.setCell _ ⟨_, _, none⟩ _
          have hp'B : ∀ x ∈ blk p', we.heap.size ≤ x := fun x hx => (own'.view.2.2.2.2.2.2 x hx).1
          have HIn : Hid (RpI w0 wu.heap.size we.heap.size (pageOf hexB (E.take (i + 1)) (tokOf tk ys) M).ents (pageOf hexB (E.take (i + 1)) (tokOf tk ys) M).next p' (m + 1) k' w3) := Lib.hid (by
            rw [h1, h2]
            refine ⟨by rw [hw3]; exact rx2.setCell 0 _, own'.only o3 (fun x hx hm => by have h4 := hp'B x (ownBlkF hx); have h5 := List.mem_singleton.1 hm; omega), by rw [List.length_append, HIt.out.len]; rfl, (HIt.out.r10.only o' (fun hm => by have := hqB _ hm; have := HR2x.out.lt; omega)).only o3 (fun hm => by have h5 := List.mem_singleton.1 hm; have := H10.out; omega), (HIt.out.only.transN o' (fun t ht => by have := hqB t ht; have := HOx.out.size; omega)).transN o3 (fun t ht => by have h5 := List.mem_singleton.1 ht; have := H10.out; omega)⟩)
          have Hkeep2 : Hid (∀ p' vs, Rd we p' vs → (∀ a, p' = some a → a.block < we.heap.size ∧ a.block ≠ wu.heap.size) → Rd w3 p' vs) := Lib.hid (fun pp vs h hh => by
            have h4 := (Hkeep.out pp vs h hh).only0 Hot.out
            exact (h4.only o' (fun a ha hm => by have := hqB _ hm; have := (hh a ha).1; omega)).only o3 (fun a ha hm => by have h5 := List.mem_singleton.1 hm; exact (hh a ha).2 h5))
          have Hsz2 : Hid (we.heap.size ≤ w3.heap.size) := Lib.hid (Nat.le_trans hszt (Nat.le_trans o'.size o3.size))
          have Hw3 := Lib.hid hw3
          clear own' o' hat rx2 o3 hp'B hw3 h1 h2 hB hmB hqB
          go_wp2_with (first | (at_builtin; refine wpl_append (s := .tmp 57) (x := .tmp 59) rfl rfl rfl rfl Hr.out ?_))
          rw [← Hw3.out]
          refine ⟨⟨i + 1, p', m + 1, k', by go_num, by omega, HIn, Lib.hid (.inr trivial), Hkeep2, Hsz2⟩, ?_⟩
          show me + 1 - ((i : Int) + 1).toNat < me + 1 - ((i : Int)).toNat
          omega
        · obtain ⟨h1, l, hl, h2, h3⟩ := St3.out Hps.out hB
          have hmB : m = M := by rw [← HIt.out.len, HlB.out]; omega
          subst hmB
          have hmM : ¬ (m : Int) < (m : Int) := by omega
          have hx1 := HIt.out.rx.cell (i := 1) rfl
          have fx1 := HIt.out.rx.free 1
          have Hkeep2 : Hid (∀ p' vs, Rd we p' vs → (∀ a, p' = some a → a.block < we.heap.size ∧ a.block ≠ wu.heap.size) → Rd wt p' vs) := Lib.hid (fun pp vs h hh => (Hkeep.out pp vs h hh).only0 Hot.out)
          by_cases hnx : (pageOf hexB (E.take i) (tokOf tk ys) m).next = []
          · have hne : (str (pageOf hexB (E.take i) (tokOf tk ys) m).next).toList = [] := by rw [hnx, str_toList]
            obtain ⟨g, hg, -, -⟩ := HIt.out.own.at (by omega)
            subst hg
            have hle := rd_elem enCells_len HIt.out.own.view.2.2.1 hl (r := 0) rfl
            rw [Addr.add_lit, Nat.zero_add, Nat.add_zero] at hle
            have hMi : (m : Int) - 1 = ((m - 1 : Nat) : Int) := by omega
            have hMj : ((m - 1 : Nat) : Int) < (m : Int) := by omega
            have hll : l.name.length ≤ 4294967280 := Hnl.out l (by
              have hm := List.mem_of_getElem? hl
              unfold pageOf behind at hm
              exact List.mem_of_mem_take (List.mem_filter.1 (List.mem_of_mem_take hm)).1)
            obtain ⟨gg, cg, wv, hcs, hgg, hrg, hog, -⟩ := conv_str wt (str l.name) l.name rfl l.name.length rfl
            have hhx := refHex_any (some ⟨gg, 0, none⟩) l.name l.name.length cg wv rfl (by omega) hrg
            have Hcs := Lib.hid hcs
            have HIv := Lib.hid (HIt.out.step hog)
            have Hog := Lib.hid hog
            have Hh1 := Lib.hid h1
            have Hh2 := Lib.hid h2
            generalize m - 1 = m1 at *
            clear hll hgg hrg hog h1 h2 h3 hl hB hqB
            generalize str (pageOf hexB (E.take i) (tokOf tk ys) m).next = snx at *
            go_wp2_with fail
            refine hhx.mono ?_
            clear hhx hcs hle hx0 hx1 fx1 z0 z1 z2 z3 z4
            rintro e2 w2 ⟨rfl, o2⟩
            have hI2 := HIv.out.step o2
            have cx2 := hI2.rx.cell (i := 1) rfl
            have fx2 := hI2.rx.free 1
            obtain ⟨w3, hw3⟩ : ∃ w3, w3 = w2.setCell ⟨wu.heap.size, 1, none⟩ (.string (str (hexB l.name))) := ⟨_, rfl⟩
            have o3 : Only [wu.heap.size] w2 w3 := by rw [hw3]; exact Only.setCell _ ⟨_, _, none⟩ _
            have HIn : Hid (RpI w0 wu.heap.size we.heap.size (pageOf hexB (E.take (i + 1)) (tokOf tk ys) m).ents (pageOf hexB (E.take (i + 1)) (tokOf tk ys) m).next (some ⟨g, 0, none⟩) m k w3) := Lib.hid (by
              rw [Hh1.out, Hh2.out]
              exact ⟨by rw [hw3]; exact hI2.rx.setCell 1 _, hI2.own.only o3 (fun x hx hm => by have h4 := (hI2.own.view.2.2.2.2.2.2 x (ownBlkF hx)).1; have h5 := List.mem_singleton.1 hm; omega), hI2.len, hI2.r10.only o3 (fun hm => by have h5 := List.mem_singleton.1 hm; have := H10.out; omega), hI2.only.transN o3 (fun t ht => by have h5 := List.mem_singleton.1 ht; have := H10.out; omega)⟩)
            have Hkeep3 : Hid (∀ p' vs, Rd we p' vs → (∀ a, p' = some a → a.block < we.heap.size ∧ a.block ≠ wu.heap.size) → Rd w3 p' vs) := Lib.hid (fun pp vs h hh => ((Hkeep2.out pp vs h hh).only0 (Hog.out.trans0 o2)).only o3 (fun a ha hm => by have h5 := List.mem_singleton.1 hm; exact (hh a ha).2 h5))
            have Hsz3 : Hid (we.heap.size ≤ w3.heap.size) := Lib.hid (Nat.le_trans hszt (Nat.le_trans (Hog.out.trans0 o2).size o3.size))
            have Hw3 := Lib.hid hw3
            clear hI2 o2 o3 hw3
            unfold str at Hw3
            go_wp2_with fail
            rw [← Hw3.out]
            refine ⟨⟨i + 1, _, m, k, by go_num, by omega, HIn, Lib.hid (.inr trivial), Hkeep3, Hsz3⟩, ?_⟩
            show me + 1 - ((i : Int) + 1).toNat < me + 1 - ((i : Int)).toNat
            omega
          · have hne : ¬ (str (pageOf hexB (E.take i) (tokOf tk ys) m).next).toList = [] := by rw [str_toList]; exact hnx
            have hne2 : (str (pageOf hexB (E.take i) (tokOf tk ys) m).next).toList.isEmpty = false := by
              rw [str_toList]
              cases hz : (pageOf hexB (E.take i) (tokOf tk ys) m).next with
              | nil => exact absurd hz hnx
              | cons x y => rfl
            have HIn : Hid (RpI w0 wu.heap.size we.heap.size (pageOf hexB (E.take (i + 1)) (tokOf tk ys) m).ents (pageOf hexB (E.take (i + 1)) (tokOf tk ys) m).next q m k wt) := Lib.hid (by
              rw [h1, h2]
              rcases h3 with h3 | h3
              · exact absurd h3 hnx
              · rw [← h3]; exact HIt.out)
            have Hszt := Lib.hid hszt
            generalize str (pageOf hexB (E.take i) (tokOf tk ys) m).next = snx at *
            clear h1 h2 h3 hl hB hqB hnx
            go_wp2_with fail
            refine ⟨⟨i + 1, q, m, k, by go_num, by omega, HIn, Lib.hid (.inr trivial), Hkeep2, Hszt⟩, ?_⟩
            show me + 1 - ((i : Int) + 1).toNat < me + 1 - ((i : Int)).toNat
            omega
      · have hde2 : (str tk).toList.isEmpty = false := by rw [str_toList]; cases tk with | nil => exact absurd rfl htk | cons x l => rfl
        have hde3 : ¬ (str tk).toList = [] := by rw [str_toList]; exact htk
        have hrn : Rd wt pn (u8s ys) := (Hkeep.out pn _ HNm.out.view.1 (fun a ha => ⟨by have := Hpnl.out a ha; omega, fun e => by have := Hpnl.out a ha; omega⟩)).only0 Hot.out
        have hcv : (convert 22 9 (.slice pn ys.length cn)).run Tryd.prog wt = .ok (.string (str ys)) wt := conv_bytes (P := Tryd.prog) wt Tryd.underlying22 Tryd.underlying5 Tryd.underlying9 hrn rfl HNm.out.view.2.2.1
        have hcl := str_ltb e.name ys
        have hcc := str_eqb e.name ys
        have hps : passes (tokOf tk ys) e = !(decide (lt e.name ys) || decide (e.name = ys)) := by
          unfold tokOf passes
          rw [if_neg htk]
          rw [← hcl, ← hcc, str_toList, str_toList]
        clear hrn htk
        cases h1 : (decide (lt e.name ys) || decide (e.name = ys)) with
        | true =>
          rw [h1] at hps
          have Hs1 := Lib.hid (St1.out hps)
          have HIn : Hid (RpI w0 wu.heap.size we.heap.size (pageOf hexB (E.take (i + 1)) (tokOf tk ys) M).ents (pageOf hexB (E.take (i + 1)) (tokOf tk ys) M).next q m k wt) := Lib.hid (by rw [Hs1.out]; exact HIt.out)
          have Hkeep2 : Hid (∀ p' vs, Rd we p' vs → (∀ a, p' = some a → a.block < we.heap.size ∧ a.block ≠ wu.heap.size) → Rd wt p' vs) := Lib.hid (fun pp vs h hh => (Hkeep.out pp vs h hh).only0 Hot.out)
          have Hszt : Hid (we.heap.size ≤ wt.heap.size) := Lib.hid (Nat.le_trans Hsz.out Hot.out.size)
          by_cases hA : lt e.name ys
          · rw [decide_eq_true hA] at hcl
            clear hps h1 hA hcc
            go_wp2_with fail
            refine ⟨⟨i + 1, q, m, k, by go_num, by omega, HIn, Lib.hid (.inr trivial), Hkeep2, Hszt⟩, ?_⟩
            show me + 1 - ((i : Int) + 1).toNat < me + 1 - ((i : Int)).toNat
            omega
          · rw [decide_eq_false hA] at hcl h1
            have hB : decide (e.name = ys) = true := by simpa using h1
            rw [hB] at hcc
            clear hps h1 hA hB
            go_wp2_with fail
            refine ⟨⟨i + 1, q, m, k, by go_num, by omega, HIn, Lib.hid (.inr trivial), Hkeep2, Hszt⟩, ?_⟩
            show me + 1 - ((i : Int) + 1).toNat < me + 1 - ((i : Int)).toNat
            omega
        | false =>
          rw [h1] at hps
          have Hps : Hid (passes (tokOf tk ys) e = true) := Lib.hid hps
          obtain ⟨h2, h3⟩ := Bool.or_eq_false_iff.1 h1
          rw [h2] at hcl
          rw [h3] at hcc
          clear hps h1 h2 h3
          go_upto_region 11 with (fail)
          clear hcl hcc hcv
          have z0 := Hrt.out.cell (i := 0) rfl
          have z1 := Hrt.out.cell (i := 1) rfl
          have z2 := Hrt.out.cell (i := 2) rfl
          have z3 := Hrt.out.cell (i := 3) rfl
          have z4 := Hrt.out.cell (i := 4) rfl
          have hx0 := HIt.out.rx.cell (i := 0) rfl
          have hXB : wu.heap.size < we.heap.size := by omega
          have hszt : we.heap.size ≤ wt.heap.size := Nat.le_trans Hsz.out Hot.out.size
          have hqB : ∀ x ∈ blk q, we.heap.size ≤ x := fun x hx => (HIt.out.own.view.2.2.2.2.2.2 x hx).1
          rcases Nat.lt_or_ge (behind (tokOf tk ys) (E.take i)).length M with hB | hB
          · obtain ⟨h1, h2⟩ := St2.out Hps.out hB
            have hmB : m = (behind (tokOf tk ys) (E.take i)).length := by rw [← HIt.out.len, HlB.out]; omega
            have hmM : (m : Int) < (M : Int) := by omega
            obtain ⟨p', k', w2, Hr, own', o', hat⟩ := push_en _ e HIt.out.own hszt (by omega)
            have rx2 := HIt.out.rx.only o' (fun hm => by have := hqB _ hm; omega)
            have f2 := rx2.free 0
            have c2 := rx2.cell (i := 0) rfl
            obtain ⟨w3, hw3⟩ : ∃ w3, w3 = w2.setCell ⟨wu.heap.size, 0, none⟩ (.slice p' (m + 1) k') := ⟨_, rfl⟩
            have o3 : Only [wu.heap.size] w2 w3 := by rw [hw3]; exact Only.setCell _ ⟨_, _, none⟩ _
            have hp'B : ∀ x ∈ blk p', we.heap.size ≤ x := fun x hx => (own'.view.2.2.2.2.2.2 x hx).1
            have HIn : Hid (RpI w0 wu.heap.size we.heap.size (pageOf hexB (E.take (i + 1)) (tokOf tk ys) M).ents (pageOf hexB (E.take (i + 1)) (tokOf tk ys) M).next p' (m + 1) k' w3) := Lib.hid (by
              rw [h1, h2]
              refine ⟨by rw [hw3]; exact rx2.setCell 0 _, own'.only o3 (fun x hx hm => by have h4 := hp'B x (ownBlkF hx); have h5 := List.mem_singleton.1 hm; omega), by rw [List.length_append, HIt.out.len]; rfl, (HIt.out.r10.only o' (fun hm => by have := hqB _ hm; have := HR2x.out.lt; omega)).only o3 (fun hm => by have h5 := List.mem_singleton.1 hm; have := H10.out; omega), (HIt.out.only.transN o' (fun t ht => by have := hqB t ht; have := HOx.out.size; omega)).transN o3 (fun t ht => by have h5 := List.mem_singleton.1 ht; have := H10.out; omega)⟩)
            have Hkeep2 : Hid (∀ p' vs, Rd we p' vs → (∀ a, p' = some a → a.block < we.heap.size ∧ a.block ≠ wu.heap.size) → Rd w3 p' vs) := Lib.hid (fun pp vs h hh => by
              have h4 := (Hkeep.out pp vs h hh).only0 Hot.out
              exact (h4.only o' (fun a ha hm => by have := hqB _ hm; have := (hh a ha).1; omega)).only o3 (fun a ha hm => by have h5 := List.mem_singleton.1 hm; exact (hh a ha).2 h5))
            have Hsz2 : Hid (we.heap.size ≤ w3.heap.size) := Lib.hid (Nat.le_trans hszt (Nat.le_trans o'.size o3.size))
            have Hw3 := Lib.hid hw3
            clear own' o' hat rx2 o3 hp'B hw3 h1 h2 hB hmB hqB
            go_wp2_with (first | (at_builtin; refine wpl_append (s := .tmp 57) (x := .tmp 59) rfl rfl rfl rfl Hr.out ?_))
            rw [← Hw3.out]
            refine ⟨⟨i + 1, p', m + 1, k', by go_num, by omega, HIn, Lib.hid (.inr trivial), Hkeep2, Hsz2⟩, ?_⟩
            show me + 1 - ((i : Int) + 1).toNat < me + 1 - ((i : Int)).toNat
            omega
          · obtain ⟨h1, l, hl, h2, h3⟩ := St3.out Hps.out hB
            have hmB : m = M := by rw [← HIt.out.len, HlB.out]; omega
            subst hmB
            have hmM : ¬ (m : Int) < (m : Int) := by omega
            have hx1 := HIt.out.rx.cell (i := 1) rfl
            have fx1 := HIt.out.rx.free 1
            have Hkeep2 : Hid (∀ p' vs, Rd we p' vs → (∀ a, p' = some a → a.block < we.heap.size ∧ a.block ≠ wu.heap.size) → Rd wt p' vs) := Lib.hid (fun pp vs h hh => (Hkeep.out pp vs h hh).only0 Hot.out)
            by_cases hnx : (pageOf hexB (E.take i) (tokOf tk ys) m).next = []
            · have hne : (str (pageOf hexB (E.take i) (tokOf tk ys) m).next).toList = [] := by rw [hnx, str_toList]
              obtain ⟨g, hg, -, -⟩ := HIt.out.own.at (by omega)
              subst hg
              have hle := rd_elem enCells_len HIt.out.own.view.2.2.1 hl (r := 0) rfl
              rw [Addr.add_lit, Nat.zero_add, Nat.add_zero] at hle
              have hMi : (m : Int) - 1 = ((m - 1 : Nat) : Int) := by omega
              have hMj : ((m - 1 : Nat) : Int) < (m : Int) := by omega
              have hll : l.name.length ≤ 4294967280 := Hnl.out l (by
                have hm := List.mem_of_getElem? hl
                unfold pageOf behind at hm
                exact List.mem_of_mem_take (List.mem_filter.1 (List.mem_of_mem_take hm)).1)
              obtain ⟨gg, cg, wv, hcs, hgg, hrg, hog, -⟩ := conv_str wt (str l.name) l.name rfl l.name.length rfl
              have hhx := refHex_any (some ⟨gg, 0, none⟩) l.name l.name.length cg wv rfl (by omega) hrg
              have Hcs := Lib.hid hcs
              have HIv := Lib.hid (HIt.out.step hog)
              have Hog := Lib.hid hog
              have Hh1 := Lib.hid h1
              have Hh2 := Lib.hid h2
              generalize m - 1 = m1 at *
              clear hll hgg hrg hog h1 h2 h3 hl hB hqB
              generalize str (pageOf hexB (E.take i) (tokOf tk ys) m).next = snx at *
              go_wp2_with fail
              refine hhx.mono ?_
              clear hhx hcs hle hx0 hx1 fx1 z0 z1 z2 z3 z4
              rintro e2 w2 ⟨rfl, o2⟩
              have hI2 := HIv.out.step o2
              have cx2 := hI2.rx.cell (i := 1) rfl
              have fx2 := hI2.rx.free 1
              obtain ⟨w3, hw3⟩ : ∃ w3, w3 = w2.setCell ⟨wu.heap.size, 1, none⟩ (.string (str (hexB l.name))) := ⟨_, rfl⟩
              have o3 : Only [wu.heap.size] w2 w3 := by rw [hw3]; exact Only.setCell _ ⟨_, _, none⟩ _
              have HIn : Hid (RpI w0 wu.heap.size we.heap.size (pageOf hexB (E.take (i + 1)) (tokOf tk ys) m).ents (pageOf hexB (E.take (i + 1)) (tokOf tk ys) m).next (some ⟨g, 0, none⟩) m k w3) := Lib.hid (by
                rw [Hh1.out, Hh2.out]
                exact ⟨by rw [hw3]; exact hI2.rx.setCell 1 _, hI2.own.only o3 (fun x hx hm => by have h4 := (hI2.own.view.2.2.2.2.2.2 x (ownBlkF hx)).1; have h5 := List.mem_singleton.1 hm; omega), hI2.len, hI2.r10.only o3 (fun hm => by have h5 := List.mem_singleton.1 hm; have := H10.out; omega), hI2.only.transN o3 (fun t ht => by have h5 := List.mem_singleton.1 ht; have := H10.out; omega)⟩)
              have Hkeep3 : Hid (∀ p' vs, Rd we p' vs → (∀ a, p' = some a → a.block < we.heap.size ∧ a.block ≠ wu.heap.size) → Rd w3 p' vs) := Lib.hid (fun pp vs h hh => ((Hkeep2.out pp vs h hh).only0 (Hog.out.trans0 o2)).only o3 (fun a ha hm => by have h5 := List.mem_singleton.1 hm; exact (hh a ha).2 h5))
              have Hsz3 : Hid (we.heap.size ≤ w3.heap.size) := Lib.hid (Nat.le_trans hszt (Nat.le_trans (Hog.out.trans0 o2).size o3.size))
              have Hw3 := Lib.hid hw3
              clear hI2 o2 o3 hw3
              unfold str at Hw3
              go_wp2_with fail
              rw [← Hw3.out]
              refine ⟨⟨i + 1, _, m, k, by go_num, by omega, HIn, Lib.hid (.inr trivial), Hkeep3, Hsz3⟩, ?_⟩
              show me + 1 - ((i : Int) + 1).toNat < me + 1 - ((i : Int)).toNat
              omega
            · have hne : ¬ (str (pageOf hexB (E.take i) (tokOf tk ys) m).next).toList = [] := by rw [str_toList]; exact hnx
              have hne2 : (str (pageOf hexB (E.take i) (tokOf tk ys) m).next).toList.isEmpty = false := by
                rw [str_toList]
                cases hz : (pageOf hexB (E.take i) (tokOf tk ys) m).next with
                | nil => exact absurd hz hnx
                | cons x y => rfl
              have HIn : Hid (RpI w0 wu.heap.size we.heap.size (pageOf hexB (E.take (i + 1)) (tokOf tk ys) m).ents (pageOf hexB (E.take (i + 1)) (tokOf tk ys) m).next q m k wt) := Lib.hid (by
                rw [h1, h2]
                rcases h3 with h3 | h3
                · exact absurd h3 hnx
                · rw [← h3]; exact HIt.out)
              have Hszt := Lib.hid hszt
              generalize str (pageOf hexB (E.take i) (tokOf tk ys) m).next = snx at *
              clear h1 h2 h3 hl hB hqB hnx
              go_wp2_with fail
              refine ⟨⟨i + 1, q, m, k, by go_num, by omega, HIn, Lib.hid (.inr trivial), Hkeep2, Hszt⟩, ?_⟩
              show me + 1 - ((i : Int) + 1).toNat < me + 1 - ((i : Int)).toNat
              omega
    · obtain rfl : i = me := by omega
      have hT : E.take i = E := List.take_of_length_le (by rw [HlE.out]; exact Nat.le_refl _)
      have hI := HI.out
      rw [hT] at hI
      have hx0 := hI.rx.cell (i := 0) rfl
      have hx1 := hI.rx.cell (i := 1) rfl
      have hst := hI.r10.storeAt (P := Tryd.prog) (ty := 43) (us := [.slice q m k, .string (str (pageOf hexB E (tokOf tk ys) M).next)]) pgInfo rfl (by simp [Value.oneCell'])
      have hrow := hI.r10.setRow [.slice q m k, .string (str (pageOf hexB E (tokOf tk ys) M).next)]
      have oS := Only.setRow wr (w0.heap.size + 1) #[.slice q m k, .string (str (pageOf hexB E (tokOf tk ys) M).next)]
      have hO := hI.only.transN oS (by simp)
      have hown := hI.own.only oS (fun x hx hm => by have h4 := (hI.own.view.2.2.2.2.2.2 x (ownBlkF hx)).1; have h5 := List.mem_singleton.1 hm; have := H10.out; have := HOx.out.size; omega)
      have Hst := Lib.hid hst
      have Hrow := Lib.hid hrow
      have HO := Lib.hid hO
      have Hown := Lib.hid (hown.weaken (base' := w0.heap.size) (by have := HOx.out.size; omega))
      have Hlen := Lib.hid hI.len
      clear hst hrow oS hO hown hI hT
      go_wp2_with (first | ((with_reducible show wpList _ _ _ _ _ _); refine wpl_store (ty := 43) (x := .tmp 10) (y := .tmp 76) rfl rfl rfl rfl Hst.out ?_))
      exact bodyPost_ret (results_c2 rfl _ _ _ rfl Hrow.out Tryd.underlying43 pgInfo) rfl ⟨q, m, k, rfl, Hlen.out, Hown.out, HO.out⟩
end Go.Proofs.YtfoplbolbjcggaaDoor
