/- The walk of bollardlaw04.MacLong. -/
import Derived.Test.YtmddehbfimpjdaaMacDerivesW
import Derived.Test.YtmddehbfimpjdaaMacSameW
import Derived.Deep.QuietTactic
import Derived.BigQuiet
set_option linter.unusedVariables false
namespace Go.Proofs.Ytmddehbfimpjdaa
open Go.RowKit

/-- the cells of a slice of strings -/
def strsV (ss : List (List UInt8)) : List Value := ss.map fun s => .string ⟨s.toArray⟩
theorem strsV_length (ss : List (List UInt8)) : (strsV ss).length = ss.length := by simp [strsV]
theorem strsV_one {ss : List (List UInt8)} {v : Value} (h : v ∈ strsV ss) : v.oneCell' = true := by
  obtain ⟨s, -, rfl⟩ := List.mem_map.1 h; rfl
theorem Strs.rd {w : World} {p : Option Addr} {ss : List (List UInt8)} (h : Strs w p ss) : Rd w p (strsV ss) := by
  cases ss with
  | nil => exact Rd.nil _ _
  | cons s r =>
    obtain ⟨b, off, rfl, -, -⟩ := h 0 s rfl
    refine .inr ⟨b, off, rfl, fun j v hj => ?_⟩
    unfold strsV at hj
    rw [List.getElem?_map] at hj
    cases hs : (s :: r)[j]? with
    | none => rw [hs] at hj; cases hj
    | some x =>
      rw [hs] at hj
      obtain ⟨b', off', e, -, hc⟩ := h j x hs
      cases e; cases hj; exact hc
theorem Strs.ofRd {w : World} {p : Option Addr} {ss : List (List UInt8)} (h : Rd w p (strsV ss)) (hl : ∀ s ∈ ss, s.length ≤ 140737488351232) : Strs w p ss := fun j s hj => by
  rcases h with h | ⟨b, off, rfl, h⟩
  · unfold strsV at h; rw [List.map_eq_nil_iff] at h; rw [h] at hj; cases hj
  · exact ⟨b, off, rfl, hl s (List.mem_of_getElem? hj), h j _ (by unfold strsV; rw [List.getElem?_map, hj]; rfl)⟩
theorem Strs.len {w : World} {p : Option Addr} {ss : List (List UInt8)} (h : Strs w p ss) : ∀ s ∈ ss, s.length ≤ 140737488351232 := fun s hs => by
  obtain ⟨j, hj⟩ := List.getElem?_of_mem hs
  obtain ⟨_, _, _, h2, _⟩ := h j s hj
  exact h2
theorem infoStr : (Try.prog.info? 9).map (fun i => (i.zero, i.size, i.bytes)) = some (some (.string ⟨#[]⟩), 1, 16) := by kernel_rfl

set_option maxHeartbeats 4000000 in
theorem macLong_walk (p q r u : Option Addr) (ks ms : List UInt8) (os ts : List (List UInt8)) (n c m d k e l f : Nat) (W0 : World) (hn : ks.length = n) (hb : n ≤ 1048576) (hp : p = none → n = 0 ∧ c = 0) (hx : Rd W0 p (u8s ks))
    (hm : ms.length = m) (hbm : m ≤ 1048576) (hq : q = none → m = 0 ∧ d = 0) (hy : Rd W0 q (u8s ms))
    (hk : os.length = k) (hbk : k ≤ 1048576) (hr : r = none → k = 0 ∧ e = 0) (ho : Strs W0 r os) (hl : ts.length = l) (hbl : l ≤ 1048576) (hu : u = none → l = 0 ∧ f = 0) (ht : Strs W0 u ts) :
    Calls Try.prog 11 #[.agg #[.slice p n c, .slice q m d, .slice r k e, .slice u l f]] W0 fun e w' => e = .returned (.bool true) ∧ Only [] W0 w' := by
  have Hn := Lib.hid hn
  have Hp := Lib.hid hp
  have Hx := Lib.hid hx
  have Hm := Lib.hid hm
  have Hq := Lib.hid hq
  have Hy := Lib.hid hy
  have Hk := Lib.hid hk
  have Hr := Lib.hid hr
  have Ho := Lib.hid ho
  have Hl := Lib.hid hl
  have Hu := Lib.hid hu
  have Ht := Lib.hid ht
  clear hn hp hx hm hq hy hk hr ho hl hu ht
  go_enter Try.func11, Try.ntmps11
  go_wp2_with fail
  go_quiet (fail)
  go_wp2_with fail
  (with_reducible refine (alive04_any _).mono ?_)
  rintro e w1 ⟨rfl, h1⟩
  have ho1 : Only [] W0 w1 := ((Only.alloc _ _).trans0 (Only.drewN _ nq)).trans0 h1
  clear h1
  obtain ⟨w2, hw2⟩ : ∃ w2, w2 = w1.alloc (.cells #[] 9) := ⟨_, rfl⟩
  have o2 : Only [] w1 w2 := by rw [hw2]; exact Only.alloc _ _
  have ow2 : Own w2 w1.heap.size 9 (.slice (some ⟨w1.heap.size, 0, none⟩) 0 0) [] := by rw [hw2]; exact Own.ofRow (vs := []) (rest := []) (Nat.le_refl _) (Row.new w1 _ []) rfl (by omega)
  have ho2 := ho1.trans0 o2
  obtain ⟨p3, c3, w3, hr3, o3, h3⟩ := append_fresh (P := Try.prog) (bytes := 16) (c := e) (q := r) (m := k) (news := strsV os) (t := 45) (ty := 45) w2 Try.underlying45 infoStr rfl ow2 ((Ho.out.only0 ho2).rd) (by rw [strsV_length, Hk.out]) Hr.out (fun v hv => strsV_one hv) (by omega) (by omega) o2.size
  have ho3 := ho2.trans0 h3
  obtain ⟨p4, c4, w4, hr4, o4, h4, -⟩ := append_owned (P := Try.prog) (bytes := 16) (c := f) (q := u) (m := l) (news := strsV ts) (t := 45) (ty := 45) w3 Try.underlying45 infoStr rfl o3 ((Ht.out.only0 ho3).rd) (by rw [strsV_length, Hl.out]) Hu.out (fun v hv => strsV_one hv) (by omega) (by omega) (by have := o2.size; have := h3.size; omega)
  have hv4 := o4.view
  have ho4 : Only [] W0 w4 := ho3.transN h4 (by
    intro i hi
    have hv3 := o3.view
    cases p3 with
    | none => simp [blk] at hi
    | some a =>
      have := (hv3.2.2.2.2.2 a rfl).1
      have := ho1.size
      simp [blk] at hi; omega)
  have hall : strsV os ++ strsV ts = strsV (os ++ ts) := by unfold strsV; rw [List.map_append]
  rw [hall] at hv4
  have Hall := Lib.hid (Strs.ofRd hv4.1 (by
    intro s hs
    rcases List.mem_append.1 hs with h | h
    · exact Ho.out.len s h
    · exact Ht.out.len s h))
  have Hn4 := Lib.hid (show (os ++ ts).length = k + l by rw [List.length_append, Hk.out, Hl.out])
  have Hp4 := Lib.hid hv4.2.2.1
  have Hr3 := Lib.hid hr3
  have Hr4 := Lib.hid hr4
  have Ho4 := Lib.hid ho4
  obtain ⟨S, hS⟩ : ∃ S : ByteArray, S = ⟨ks.toArray⟩ := ⟨_, rfl⟩
  have HS := Lib.hid hS
  have hcv : ∀ w, Only [] W0 w → (Go.convert 22 9 (.slice p n c)).run Try.prog w = .ok (.string S) w := fun w h => by
    rw [hS]; exact conv_bytes w Try.underlying22 Try.underlying5 Try.underlying9 (Hx.out.only0 h) Hn.out Hp.out
  have Hcv := Lib.hid hcv
  have hcv4 := hcv w4 ho4
  clear hr3 hr4 ho4 hS hcv hall hv4 o4 h4 o3 h3 ow2 o2 ho2 ho3
  subst hw2
  go_wp2_with (first | (at_builtin; refine wpl_append (s := .tmp 23) (x := .tmp 24) rfl rfl rfl rfl Hr3.out ?_) | (at_builtin; refine wpl_append (s := .tmp 25) (x := .tmp 26) rfl rfl rfl rfl Hr4.out ?_))
  clear Hr3 Hr4 hcv4
  (with_reducible refine (macDerive_any p4 ks S (os ++ ts) (k + l) c4 w4 HS.out (by have := Hn.out; omega) Hn4.out (by omega) Hp4.out Hall.out).mono ?_)
  rintro e w5 ⟨p5, m5, d5, rfl, hr5, hl5, hp5, hb5, -, h5⟩
  have ho5 := Ho4.out.trans0 h5
  have hcv5 := Hcv.out w5 ho5
  rw [deriveB_app] at hr5 hl5
  obtain ⟨K, hK⟩ : ∃ K, K = deriveB (bollard ++ ks) os := ⟨_, rfl⟩
  rw [← hK] at hr5 hl5
  have HK := Lib.hid hK
  have Hr5 := Lib.hid hr5
  have Hl5 := Lib.hid hl5
  have Hp5 := Lib.hid hp5
  clear hr5 hl5 hp5 hK Ho4 h5
  go_wp2_with fail
  (with_reducible refine (refDerive_any r ks S os k e w5 HS.out (by have := Hn.out; omega) Hk.out (by omega) Hr.out (Ho.out.only0 ho5)).mono ?_)
  rintro e w6 ⟨p6, m6, d6, rfl, hr6, hl6, hp6, hb6, hd6, h6⟩
  rw [← HK.out] at hr6 hl6
  have Ho6 := Lib.hid (ho5.trans0 h6)
  have Hr56 := Lib.hid (Hr5.out.only0 h6)
  have Hr6 := Lib.hid hr6
  have Hl6 := Lib.hid hl6
  have Hp6 := Lib.hid hp6
  have Hb6 := Lib.hid (And.intro hb6 hd6)
  clear hr6 hl6 hp6 hb6 hd6 hcv5 h6 Hr5 ho5
  go_wp2_with fail
  go_loopw [38, 9] (fun i s wr => ∃ (j : Nat) (p : Option Addr) (m d : Nat) (B : List UInt8), i = .int .i64 (j : Int) ∧ s = .slice p m d ∧ j ≤ l ∧ Hid (B = deriveB K (ts.take j)) ∧ Hid (B.length = m) ∧ Hid (m ≤ 140737488351239 ∧ m ≤ d) ∧ Hid (p = none → m = 0 ∧ d = 0) ∧ Hid (Rd wr p (u8s B)) ∧ Hid (Only [] w6 wr)) (fun i _ _ => l - (intOf i).toNat)
  case atStart => exact ⟨0, _, _, _, K, rfl, rfl, by omega, Lib.hid rfl, Hl6, Hb6, Hp6, Hr6, Lib.hid (Only.refl _ _)⟩
  case round =>
    clear Hr6 Hl6 Hp6 Hb6
    obtain ⟨j, p6, m6, d6, B0, rfl, rfl, hj, HB0, Hm6, Hmb, Hp6, R, Hor⟩ := hrel
    have Hor2 := Lib.hid (Ho6.out.trans0 Hor.out)
    by_cases hlt : j < l
    · have hji : (j : Int) < (l : Int) := by omega
      obtain ⟨s, hs⟩ : ∃ s, ts[j]? = some s := ⟨_, List.getElem?_eq_getElem (by rw [Hl.out]; exact hlt)⟩
      obtain ⟨b, off, rfl, hsl, hc⟩ := (Ht.out.only0 Hor2.out) j s hs
      obtain ⟨U, hU⟩ : ∃ U : ByteArray, U = ⟨s.toArray⟩ := ⟨_, rfl⟩
      rw [← hU] at hc
      obtain ⟨g2, c2, w2, hcv2, hg2, hr2, ho2, hc2⟩ := conv_str wr U s hU s.length rfl
      obtain ⟨z, hz⟩ : ∃ z, z = s.length := ⟨_, rfl⟩
      rw [← hz] at hcv2 hsl
      have Hz := Lib.hid hz
      have R2 := Lib.hid hr2
      have Ho2 := Lib.hid (Hor.out.trans0 ho2)
      have Rk := Lib.hid (R.out.only0 ho2)
      have Hs := Lib.hid hs
      clear hz hr2 ho2 hs hU R Hor hg2 hc2
      go_wp2_with fail
      (with_reducible refine (macSum_any p6 (some ⟨g2, 0, none⟩) B0 s m6 d6 z c2 w2 Hm6.out (by have := Hmb.out.1; omega) Hp6.out Rk.out Hz.out.symm (by omega) (by simp) R2.out).mono ?_)
      rintro e w4 ⟨rfl, h4⟩
      have ho4 := Ho2.out.trans0 h4
      have hlB := macB_len B0 s
      have HB : Hid (macB B0 s = deriveB K (ts.take (j + 1))) := Lib.hid (by
        rw [List.take_add_one, Hs.out, HB0.out]; exact (deriveB_snoc K _ s).symm)
      clear HB0
      generalize macB B0 s = B at hlB HB ⊢
      obtain ⟨w5, Hst, hrow, o5, -⟩ := box32 w4 B hlB
      have o6 : Only [] w5 (w5.alloc (.cells #[] 5)) := Only.alloc _ _
      have ow6 : Own (w5.alloc (.cells #[] 5)) w5.heap.size 5 (.slice (some ⟨w5.heap.size, 0, none⟩) 0 0) [] := Own.ofRow (vs := []) (rest := []) (Nat.le_refl _) (Row.new w5 _ []) rfl (by omega)
      obtain ⟨p', c', w7, hr, o7, h7⟩ := append_fresh (P := Try.prog) (bytes := 1) (c := 32) (q := some ⟨w4.heap.size, 0, none⟩) (m := 32) (news := u8s B) (t := 22) (ty := 22) (w5.alloc (.cells #[] 5)) Try.underlying22 infoU8s rfl ow6 ((hrow.only0 o6).rd0) (by rw [u8s_length, hlB]) (by simp) (fun v hv => u8s_one hv) (by omega) (by omega) o6.size
      have Hrr := Lib.hid hr
      have Hv := Lib.hid o7.view
      have Hlow := Lib.hid ((ho4.trans0 o5).trans0 (o6.trans0 h7))
      clear hr o7 h7 ow6 o6 o5 hrow ho4 h4 hcv2 hc
      go_wp2_with (first | ((with_reducible show wpList _ _ _ _ _ _); refine wpl_store (ty := 25) (x := .tmp 12) (y := .tmp 45) rfl rfl rfl rfl Hst.out ?_) | (at_builtin; refine wpl_append (s := .tmp 46) (x := .tmp 47) rfl rfl rfl rfl Hrr.out ?_))
      refine ⟨⟨j + 1, p', 32, c', B, by go_num, rfl, by omega, HB, Lib.hid hlB, Lib.hid ⟨by omega, Hv.out.2.2.2.1⟩, Lib.hid Hv.out.2.2.1, Lib.hid Hv.out.1, Hlow⟩, by simp [intOf]; omega⟩
    · obtain rfl : j = l := by omega
      have hji : ¬ (j : Int) < (j : Int) := by omega
      have HB : Hid (B0 = deriveB K ts) := Lib.hid (by have := HB0.out; rwa [List.take_of_length_le (by rw [Hl.out]; exact Nat.le_refl _)] at this)
      have hsm := fun h1 h2 => same_any p5 p6 (deriveB K ts) B0 m5 m6 d5 d6 wr h1 h2 (by omega) (by have := Hmb.out; omega) (Hr56.out.only0 Hor.out) R.out
      replace hsm := hsm Hl5.out Hm6.out
      rw [HB.out, beq_self_eq_true] at hsm
      clear HB0 HB
      go_wp2_with fail
      refine hsm.mono ?_
      rintro e w8 ⟨rfl, h8⟩
      have ho8 := Hor2.out.trans0 h8
      clear hsm
      go_wp2_with fail
      (with_reducible refine (macSum_any p q ks ms n c m d w8 Hn.out (by omega) Hp.out (Hx.out.only0 ho8) Hm.out (by omega) Hq.out (Hy.out.only0 ho8)).mono ?_)
      rintro e w9 ⟨rfl, h9⟩
      have ho9 := ho8.trans0 h9
      go_wp2_with fail
      (with_reducible refine (refMac_any p q ks ms n c m d w9 Hn.out (by omega) Hp.out (Hx.out.only0 ho9) Hm.out (by omega) Hq.out (Hy.out.only0 ho9)).mono ?_)
      rintro e wa ⟨rfl, ha⟩
      have hoa := ho9.trans0 ha
      have hlm := macB_len ks ms
      have hqq := eqIn32 (macB ks ms) (macB ks ms) hlm hlm wa
      have hgd := guard32
      rw [beq_self_eq_true] at hqq
      go_wp2_with fail
      go_ret
      exact ⟨rfl, hoa⟩
end Go.Proofs.Ytmddehbfimpjdaa
