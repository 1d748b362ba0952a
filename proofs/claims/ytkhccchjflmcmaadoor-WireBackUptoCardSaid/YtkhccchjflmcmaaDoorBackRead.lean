/- The walk of bollardlaw05.read. -/
import Derived.Test.YtkhccchjflmcmaaDoorBackMath
import Derived.Test.YtkhccchjflmcmaaDoorReaderB
import Derived.Test.YtkhccchjflmcmaaDoorActs05
set_option linter.unusedVariables false
namespace Go.Proofs.YtkhccchjflmcmaaDoor
open Go.RowKit

theorem rdText_yes (w : World) (F : List Nat) (B : Nat) (xs bs : List UInt8) (pl n l : Nat) (most : Int) (hr : Rr w F B xs pl) (hb : xs.length ≤ 140737488351232) (h : Says (xs.drop pl) n l) (hm : (n : Int) ≤ most) (hn : pl + l + n ≤ xs.length) (hbs : (xs.drop (pl + l)).take n = bs) :
    Calls Tryd.prog 25 #[.pointer (some ⟨B, 0, none⟩), .int .i64 most] w fun e w' => e = .returned (.tuple #[.string ⟨bs.toArray⟩, .nilIface]) ∧ Rr w' F B xs (pl + l + n) ∧ Only [B] w w' := by
  have hby := rdBy_yes w F B xs pl n l most hr hb h hm hn
  rw [hbs] at hby
  have hbl : bs.length = n := by rw [← hbs, List.length_take, List.length_drop]; omega
  have Hbl := Lib.hid hbl
  clear hr h hm hn hbs hbl
  generalize pl + l + n = q at hby
  go_enter Tryd.func25, Tryd.ntmps25
  go_wp2_with fail
  refine hby.mono ?_
  rintro e w1 ⟨⟨q1, k, rfl, o⟩, hr, ho⟩
  obtain ⟨rd, -, hp, -⟩ := o.view
  have hcv := conv_bytes (P := Tryd.prog) (c := k) w1 Tryd.underlying26 Tryd.underlying5 Tryd.underlying9 rd Hbl.out hp
  clear rd hp o
  go_wp2_with fail
  go_ret2
  exact ⟨rfl, hr, ho⟩
theorem rdText_no (w : World) (F : List Nat) (B : Nat) (xs : List UInt8) (pl : Nat) (most : Int) (E : Value) (hr : Rr w F B xs pl) (hb : xs.length ≤ 140737488351232) (hE : w.cell? ⟨1, 0, none⟩ = some E) (h : ∀ n l : Nat, Says (xs.drop pl) n l → most < (n : Int) ∨ xs.length < pl + l + n) :
    Calls Tryd.prog 25 #[.pointer (some ⟨B, 0, none⟩), .int .i64 most] w fun e w' => e = .returned (.tuple #[.string ⟨#[]⟩, E]) ∧ Only [] w w' := by
  have hby := rdBy_no w F B xs pl most E hr hb hE h
  clear hr h hE
  go_enter Tryd.func25, Tryd.ntmps25
  go_wp2_with fail
  refine hby.mono ?_
  rintro e w1 ⟨rfl, ho⟩
  have hcv := conv_bytes (P := Tryd.prog) (p := none) (xs := []) (n := 0) (c := 0) w1 Tryd.underlying26 Tryd.underlying5 Tryd.underlying9 (Rd.nil _ _) rfl (by simp)
  go_wp2_with fail
  go_ret2
  exact ⟨rfl, ho⟩

set_option maxHeartbeats 1000000 in
theorem backRead (w : World) (p p' : Option Addr) (xs : List UInt8) (os : List Op5) (n c m cp : Nat) (E : Addr) (b : Bool) (hE : ErrAt w 1 E) (hxs : xs = (encO os).take n) (hn : xs.length = n) (hp : p = none → n = 0 ∧ c = 0) (hx : Rd w p (u8s xs)) (hm : os.length = m) (hacts : Acts w p' os) (hm63 : m ≤ 1048576)
    (hb : n ≤ 140737488351232) (hbb : decide (n = (encO os).length) = b) :
    Calls Tryd.prog 30 #[.slice p n c, .slice p' m cp] w fun e w' => e = .returned (.tuple #[.bool b, .bool b]) ∧ Only [] w w' := by
  have hnr := newReader p xs n c w hn (by omega) hp hx
  have Hxs := Lib.hid hxs
  have Hn := Lib.hid hn
  have Hm := Lib.hid hm
  have Hb := Lib.hid hbb
  have Ha := Lib.hid hacts
  have hle : n ≤ (encO os).length := by rw [hxs, List.length_take] at hn; omega
  have Hle := Lib.hid hle
  clear hxs hn hm hbb hacts hle
  go_enter Tryd.func30, Tryd.ntmps30
  go_wp2_with fail
  (with_reducible refine (hnr).mono ?_)
  rintro e w1 ⟨B, F, rfl, hr, ho1, hF⟩
  have hB : w.heap.size ≤ B := hF B hr.head
  go_wp2_with fail
  go_loopw [21] (fun i wr => ∃ (j : Nat), i = .int .i64 (j : Int) ∧ j ≤ m ∧ Hid (Rr wr F B xs (encO (os.take j)).length) ∧ Only [] w wr) (fun i _ => m - (intOf i).toNat)
  case atStart => exact ⟨0, rfl, Nat.zero_le _, hr, ho1⟩
  case round =>
    obtain ⟨j, rfl, hj, Hr, ho⟩ := hrel
    clear hr
    by_cases hlt : j < m
    · obtain ⟨o, hoj⟩ : ∃ o, os[j]? = some o := ⟨_, List.getElem?_eq_getElem (by rw [Hm.out]; exact hlt)⟩
      have hord0 := (Ha.out.ok o (List.mem_of_getElem? hoj)).2.2.2.2.2.2.2
      obtain ⟨b2, off2, rfl, hok, hc0, hc1, hc2, hc3⟩ := (Ha.out.only0 ho) j o hoj
      have hsp := encO_split os hoj
      have htk := encO_take os hoj
      obtain ⟨-, -, -, hom, hoc, hoc2, hoz, hord⟩ := hok
      have on : Only [] wr (wr.alloc (.cells #[.int .i64 o.kind, .int .i64 o.which, .int .i64 o.n, .slice o.p o.m o.c] 38)) := Only.alloc wr _
      have rn : Row (wr.alloc (.cells #[.int .i64 o.kind, .int .i64 o.which, .int .i64 o.n, .slice o.p o.m o.c] 38)) wr.heap.size 38 o.cells := Row.new wr _ _
      have Hsp := Lib.hid hsp
      have Htk := Lib.hid htk
      have Hom := Lib.hid hom
      have Hoz := Lib.hid hoz
      clear hoj hsp htk hom hoz
      go_wp2_with fail
      · generalize (wr.alloc (.cells #[.int .i64 o.kind, .int .i64 o.which, .int .i64 o.n, .slice o.p o.m o.c] 38)) = wa at *
        have how := ho.trans0 on
        have hEa := (hE.only0 how).cell
        have hra := Hr.out.only0 on
        have hcN := rn.cell (i := 2) rfl
        have hsz := rn.lt
        have hBl := Hr.out.lt B Hr.out.head
        have hdrop : xs.drop (encO (os.take j)).length = (opB o ++ encO (os.drop (j + 1))).take (n - (encO (os.take j)).length) := by
          rw [Hxs.out, Hsp.out, List.drop_take, List.drop_left]
        have hpl : (encO (os.take j)).length ≤ n := by obtain ⟨_, _, _, _, _, _, h⟩ := hra; rw [Hn.out] at h; exact h
        have htot := congrArg List.length Hsp.out
        rw [List.length_append, List.length_append] at htot
        have hk : o.kind = 1 := by simpa using ‹(o.kind == 1) = true›
        have hop : opB o = nb (mask63 o.n) := by rw [opB, if_pos hk]
        have hmk := mask63_lt o.n
        have ham := and_mask63 o.n
        have hxl : xs.length ≤ 140737488355328 := by rw [Hn.out]; omega
        have hlen := congrArg List.length Htk.out
        rw [List.length_append, hop] at hlen
        clear hk
        by_cases hf : (nb (mask63 o.n)).length ≤ n - (encO (os.take j)).length
        · have hs : Says (xs.drop (encO (os.take j)).length) (mask63 o.n) (nb (mask63 o.n)).length := by rw [hdrop, hop]; exact says_head hmk hf
          have hnum := rdNum_yes wa F B xs _ (mask63 o.n) _ 9223372036854775807 hra hxl hs (by omega)
          rw [← hlen] at hnum
          clear hs hop hdrop htot hf hlen hra
          generalize mask63 o.n = v at hnum ham hmk
          (with_reducible refine (hnum).mono ?_)
          rintro e wb ⟨rfl, hrb, hob⟩
          have hcNb := hob.cell hcN (by simp; omega)
          go_wp2_with fail
          exact ⟨⟨j + 1, by go_num, by omega, Lib.hid hrb, how.transN hob (by simp; exact hB)⟩, by simp [intOf]; omega⟩
        · have hno : ∀ n' l' : Nat, Says (xs.drop (encO (os.take j)).length) n' l' → (9223372036854775807 : Int) < (n' : Int) := fun n' l' hs => by
            rw [hdrop, hop] at hs
            exact absurd ⟨n', l', hs⟩ (says_cut (by omega))
          have hnum := rdNum_no wa F B xs _ 9223372036854775807 _ hra hxl hEa hno
          rw [hop] at htot
          have hbf : b = false := by rw [← Hb.out]; simp; omega
          clear hno hop hdrop htot hf hlen hra hxl
          (with_reducible refine (hnum).mono ?_)
          rintro e wb ⟨rfl, hob⟩
          go_wp2_with fail
          go_ret2
          exact ⟨by rw [hbf]; rfl, how.trans0 hob⟩
      · generalize (wr.alloc (.cells #[.int .i64 o.kind, .int .i64 o.which, .int .i64 o.n, .slice o.p o.m o.c] 38)) = wa at *
        have how := ho.trans0 on
        have hEa := (hE.only0 how).cell
        have hra := Hr.out.only0 on
        have hcN := rn.cell (i := 3) rfl
        have hsz := rn.lt
        have hBl := Hr.out.lt B Hr.out.head
        have hdrop : xs.drop (encO (os.take j)).length = (opB o ++ encO (os.drop (j + 1))).take (n - (encO (os.take j)).length) := by
          rw [Hxs.out, Hsp.out, List.drop_take, List.drop_left]
        have hpl : (encO (os.take j)).length ≤ n := by obtain ⟨_, _, _, _, _, _, h⟩ := hra; rw [Hn.out] at h; exact h
        have htot := congrArg List.length Hsp.out
        rw [List.length_append, List.length_append] at htot
        have hk : o.kind = 2 := by simpa using ‹(o.kind == 2) = true›
        have hop : opB o = nb o.m ++ o.bs := by rw [opB, if_neg (by omega), if_pos (by omega)]
        have hxl : xs.length ≤ 140737488351232 := by rw [Hn.out]; omega
        have hlen := congrArg List.length Htk.out
        rw [List.length_append, hop, List.length_append, Hom.out, ← Nat.add_assoc] at hlen
        rw [hop, List.length_append, Hom.out] at htot
        clear hk
        by_cases hf : (nb o.m).length + o.m ≤ n - (encO (os.take j)).length
        · have hs : Says (xs.drop (encO (os.take j)).length) o.m (nb o.m).length := by rw [hdrop, hop, List.append_assoc]; exact says_head (by omega) (by omega)
          have hbs : (xs.drop ((encO (os.take j)).length + (nb o.m).length)).take o.m = o.bs := by
            rw [← List.drop_drop, hdrop, hop, List.drop_take, List.append_assoc, List.drop_left, List.take_take, Nat.min_eq_left (by omega), List.take_append_of_le_length (by rw [Hom.out]; omega), List.take_of_length_le (by rw [Hom.out]; omega)]
          have hnum := rdText_yes wa F B xs o.bs _ o.m _ (o.m : Int) hra hxl hs (Int.le_refl _) (by rw [Hn.out]; omega) hbs
          rw [← hlen] at hnum
          clear hs hop hdrop htot hf hlen hra hbs
          (with_reducible refine (hnum).mono ?_)
          rintro e wb ⟨rfl, hrb, hob⟩
          have hcNb := hob.cell hcN (by simp; omega)
          have how2 := how.transN hob (by simp; exact hB)
          have cvo := conv_bytes (P := Tryd.prog) (c := o.c) wb Tryd.underlying26 Tryd.underlying5 Tryd.underlying9 (hord0.only0 how2) Hom.out Hoz.out
          go_wp2_with fail
          exact ⟨⟨j + 1, by go_num, by omega, Lib.hid hrb, how2⟩, by simp [intOf]; omega⟩
        · have hno : ∀ n' l' : Nat, Says (xs.drop (encO (os.take j)).length) n' l' → (o.m : Int) < (n' : Int) ∨ xs.length < (encO (os.take j)).length + l' + n' := by
            intro n' l' hs
            rw [hdrop, hop, List.append_assoc] at hs
            by_cases h1 : (nb o.m).length ≤ n - (encO (os.take j)).length
            · obtain ⟨rfl, rfl⟩ := (says_head (rest := o.bs ++ encO (os.drop (j + 1))) (by omega) h1).uniq hs
              right; rw [Hn.out]; omega
            · exact absurd ⟨n', l', hs⟩ (says_cut (by omega))
          have hnum := rdText_no wa F B xs _ (o.m : Int) _ hra hxl hEa hno
          have hbf : b = false := by rw [← Hb.out]; simp; omega
          clear hno hop hdrop htot hf hlen hra hxl
          (with_reducible refine (hnum).mono ?_)
          rintro e wb ⟨rfl, hob⟩
          go_wp2_with fail
          go_ret2
          exact ⟨by rw [hbf]; rfl, how.trans0 hob⟩
      · generalize (wr.alloc (.cells #[.int .i64 o.kind, .int .i64 o.which, .int .i64 o.n, .slice o.p o.m o.c] 38)) = wa at *
        have how := ho.trans0 on
        have hEa := (hE.only0 how).cell
        have hra := Hr.out.only0 on
        have hcN := rn.cell (i := 3) rfl
        have hsz := rn.lt
        have hBl := Hr.out.lt B Hr.out.head
        have hdrop : xs.drop (encO (os.take j)).length = (opB o ++ encO (os.drop (j + 1))).take (n - (encO (os.take j)).length) := by
          rw [Hxs.out, Hsp.out, List.drop_take, List.drop_left]
        have hpl : (encO (os.take j)).length ≤ n := by obtain ⟨_, _, _, _, _, _, h⟩ := hra; rw [Hn.out] at h; exact h
        have htot := congrArg List.length Hsp.out
        rw [List.length_append, List.length_append] at htot
        have hk : o.kind = 3 := by simpa using ‹(o.kind == 3) = true›
        have hop : opB o = nb o.m ++ o.bs := by rw [opB, if_neg (by omega), if_pos (by omega)]
        have hxl : xs.length ≤ 140737488351232 := by rw [Hn.out]; omega
        have hlen := congrArg List.length Htk.out
        rw [List.length_append, hop, List.length_append, Hom.out, ← Nat.add_assoc] at hlen
        rw [hop, List.length_append, Hom.out] at htot
        clear hk
        by_cases hf : (nb o.m).length + o.m ≤ n - (encO (os.take j)).length
        · have hs : Says (xs.drop (encO (os.take j)).length) o.m (nb o.m).length := by rw [hdrop, hop, List.append_assoc]; exact says_head (by omega) (by omega)
          have hbs : (xs.drop ((encO (os.take j)).length + (nb o.m).length)).take o.m = o.bs := by
            rw [← List.drop_drop, hdrop, hop, List.drop_take, List.append_assoc, List.drop_left, List.take_take, Nat.min_eq_left (by omega), List.take_append_of_le_length (by rw [Hom.out]; omega), List.take_of_length_le (by rw [Hom.out]; omega)]
          have hnum := rdBy_yes wa F B xs _ o.m _ (o.m : Int) hra hxl hs (Int.le_refl _) (by rw [Hn.out]; omega)
          rw [← hlen, hbs] at hnum
          clear hs hop hdrop htot hf hlen hra hbs
          (with_reducible refine (hnum).mono ?_)
          rintro e wb ⟨⟨q1, k1, rfl, ow1⟩, hrb, hob⟩
          have vw := ow1.view
          have cv1 := conv_bytes (P := Tryd.prog) (c := k1) wb Tryd.underlying26 Tryd.underlying5 Tryd.underlying9 vw.1 Hom.out vw.2.2.1
          clear vw ow1
          have hcNb := hob.cell hcN (by simp; omega)
          have how2 := how.transN hob (by simp; exact hB)
          have cvo := conv_bytes (P := Tryd.prog) (c := o.c) wb Tryd.underlying26 Tryd.underlying5 Tryd.underlying9 (hord0.only0 how2) Hom.out Hoz.out
          go_wp2_with fail
          exact ⟨⟨j + 1, by go_num, by omega, Lib.hid hrb, how2⟩, by simp [intOf]; omega⟩
        · have hno : ∀ n' l' : Nat, Says (xs.drop (encO (os.take j)).length) n' l' → (o.m : Int) < (n' : Int) ∨ xs.length < (encO (os.take j)).length + l' + n' := by
            intro n' l' hs
            rw [hdrop, hop, List.append_assoc] at hs
            by_cases h1 : (nb o.m).length ≤ n - (encO (os.take j)).length
            · obtain ⟨rfl, rfl⟩ := (says_head (rest := o.bs ++ encO (os.drop (j + 1))) (by omega) h1).uniq hs
              right; rw [Hn.out]; omega
            · exact absurd ⟨n', l', hs⟩ (says_cut (by omega))
          have hnum := rdBy_no wa F B xs _ (o.m : Int) _ hra hxl hEa hno
          have hbf : b = false := by rw [← Hb.out]; simp; omega
          clear hno hop hdrop htot hf hlen hra hxl
          (with_reducible refine (hnum).mono ?_)
          rintro e wb ⟨rfl, hob⟩
          go_wp2_with fail
          go_ret2
          exact ⟨by rw [hbf]; rfl, how.trans0 hob⟩
      · have hk1 : o.kind ≠ 1 := by simpa using ‹(o.kind == 1) = false›
        have hk2 : o.kind ≠ 2 := by simpa using ‹(o.kind == 2) = false›
        have hk3 : o.kind ≠ 3 := by simpa using ‹(o.kind == 3) = false›
        have hop : opB o = [] := by rw [opB, if_neg hk1, if_neg (by omega)]
        exact ⟨⟨j + 1, by go_num, by omega, Lib.hid (by rw [Htk.out, hop, List.append_nil]; exact Hr.out.only0 on), ho.trans0 on⟩, by simp [intOf]; omega⟩
    · obtain rfl : j = m := by omega
      have hr := Hr.out
      have hpl : (encO (os.take j)).length ≤ n := by obtain ⟨_, _, _, _, _, _, h⟩ := hr; rw [Hn.out] at h; exact h
      rw [List.take_of_length_le (by rw [Hm.out]; exact Nat.le_refl _)] at hpl hr
      have hbt : b = true := by rw [← Hb.out]; simp; have := Hle.out; omega
      have hz : xs.length - (encO os).length = 0 := by rw [Hn.out]; have := Hle.out; omega
      have hend := fun w' (h : Only [] wr w') => rdEnd_any w' F B xs _ _ (hr.only0 h) (by rw [Hn.out]; omega) ((hE.only0 ho).only0 h).cell
      simp only [if_pos hz] at hend
      clear hr hz hpl
      go_wp2_with fail
      -- <<r21
      refine wp_region_rg2 (Only []) [[(6, none)], [(83, some 0)], [(84, some 0)], [], [(85, some 1)]] [(4, 1), (5, 0)] [none, none, none, none, some 4, some 5, none, none, none, none, none, none, none, none, none, none, none, none, none, none, none, none, none, none, none, none, none, none, none, none, none, none, none, none, none, none, none, none, none, none, none, none, none, none, none, none, none, none, none, none, none, none, none, none, none, none, none, none, none, none, none, none, none, none, none, none, none, none, none, none, none, none, none, none, none, none, none, none, none, none, none, none, none, some 83, some 84, some 85] (by kernel_rfl) rfl (by kernel_rfl) (fun _ => Only.refl _ _) (fun _ _ _ h k => h.trans0 k) (Only.drew _) (by kernel_rfl) ?_
      -- 0: s83 := move t6
      apply rg_ev
      · intro a w hR hf
        obtain ⟨e6, -⟩ := hf
        replace e6 : a.tmps.getD 6 undef = _ := e6
        refine rg_plain rfl fun K hK => ?_
        go_simp
        exact hK _ _ rfl (Only.refl _ _)
      -- 1: s84 := call { value (Operand.func 28), args := #[t83], #[45] }
      apply rg_ev
      · intro a w hR hf
        obtain ⟨e83, -⟩ := hf
        replace e83 : a.tmps.getD 83 undef = _ := e83
        refine rg_plain rfl fun K hK => ?_
        go_simp
        (with_reducible refine (hend w hR).mono ?_)
        rintro e w' ⟨rfl, h⟩
        exact hK _ _ rfl h
      -- 2: s85 := binOp Bineql 28 t84 (const Value.nilIface) 28
      apply rg_ev
      · intro a w hR hf
        obtain ⟨e84, -⟩ := hf
        replace e84 : a.tmps.getD 84 undef = _ := e84
        refine rg_plain rfl fun K hK => ?_
        go_simp
        exact hK _ _ rfl (Only.refl _ _)
      -- 3: s4 := assign (const (Value.bool true))
      apply rg_ev
      · intro a w hR hf
        refine rg_plain rfl fun K hK => ?_
        go_simp
        exact hK _ _ rfl (Only.refl _ _)
      -- 4: s5 := assign t85
      apply rg_ev
      · intro a w hR hf
        obtain ⟨e85, -⟩ := hf
        replace e85 : a.tmps.getD 85 undef = _ := e85
        refine rg_plain rfl fun K hK => ?_
        go_simp
        exact hK _ _ rfl (Only.refl _ _)
      intro f21 w21 hR21 hf
      dsimp only [mergeT]
      obtain ⟨e4, e5, -⟩ := hf
      replace e4 : f21 4 = _ := e4
      rw [e4]
      replace e5 : f21 5 = _ := e5
      rw [e5]
      -- r21>>
      go_wp2_with fail
      go_ret2
      exact ⟨by rw [hbt]; rfl, ho.trans0 hR21⟩
end Go.Proofs.YtkhccchjflmcmaaDoor
