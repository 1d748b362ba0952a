/- The systems of rs: what stands of one; the walk of exchange. -/
import Derived.Test.YtlgcclhepegggaaDoorRsEncW
import Derived.Test.YtlgcclhepegggaaDoorRsElim
import Derived.Test.YtlgcclhepegggaaDoorRegion6
import Derived.RegionTactic
import Derived.BigRegion
set_option linter.unusedVariables false
set_option maxRecDepth 100000
namespace Go.Proofs.YtlgcclhepegggaaDoor
open Go.RowKit

theorem Rd.onlyNe {D : List Nat} {w w' : World} {q : Option Addr} {L : List UInt8} (h : Rd w q (u8s L)) (ho : Only D w w') (hn : L ≠ [] → ∀ a, q = some a → a.block ∉ D) : Rd w' q (u8s L) := by
  by_cases e : L = []
  · subst e; exact Rd.nil _ _
  · exact h.only ho (hn e)
/-- slices that read as these lists, none of them (if it is not empty) in the blocks D -/
def Ea (w : World) (D : List Nat) (vs : List Value) (Ls : List (List UInt8)) : Prop :=
  vs.length = Ls.length ∧ ∀ (j : Nat) v L, vs[j]? = some v → Ls[j]? = some L → ∃ q c, v = .slice q L.length c ∧ Rd w q (u8s L) ∧ (q = none → L.length = 0 ∧ c = 0) ∧ L.length ≤ c ∧ (L ≠ [] → ∀ a, q = some a → a.block ∉ D)
theorem Ea.only {S : List Nat} {w w' : World} {D : List Nat} {vs : List Value} {Ls : List (List UInt8)} (h : Ea w D vs Ls) (ho : Only S w w') (hS : ∀ x ∈ S, x ∈ D) : Ea w' D vs Ls :=
  ⟨h.1, fun j v L h1 h2 => by
    obtain ⟨q, c, e1, e2, e3, e5, e4⟩ := h.2 j v L h1 h2
    exact ⟨q, c, e1, e2.onlyNe ho (fun hne a ha hm => e4 hne a ha (hS _ hm)), e3, e5, e4⟩⟩
theorem Ea.only0 {w w' : World} {D : List Nat} {vs : List Value} {Ls : List (List UInt8)} (h : Ea w D vs Ls) (ho : Only [] w w') : Ea w' D vs Ls := h.only ho (by simp)
theorem Ea.set {w : World} {D : List Nat} {vs : List Value} {Ls : List (List UInt8)} (h : Ea w D vs Ls) (i : Nat) (q : Option Addr) (c : Nat) (L : List UInt8) (h1 : Rd w q (u8s L)) (h2 : q = none → L.length = 0 ∧ c = 0) (h4 : L.length ≤ c) (h3 : L ≠ [] → ∀ a, q = some a → a.block ∉ D) :
    Ea w D (vs.set i (.slice q L.length c)) (Ls.set i L) :=
  ⟨by rw [List.length_set, List.length_set]; exact h.1, fun j v L' e1 e2 => by
    by_cases e : i = j
    · subst e
      have hl := (List.getElem?_eq_some_iff.1 e1).1
      rw [List.length_set] at hl
      rw [List.getElem?_set_self hl] at e1
      rw [List.getElem?_set_self (by rw [← h.1]; exact hl)] at e2
      obtain rfl := Option.some.inj e1
      obtain rfl := Option.some.inj e2
      exact ⟨q, c, rfl, h1, h2, h4, h3⟩
    · rw [List.getElem?_set_ne e] at e1 e2
      exact h.2 j v L' e1 e2⟩
theorem Ea.at {w : World} {D : List Nat} {vs : List Value} {Ls : List (List UInt8)} (h : Ea w D vs Ls) {j : Nat} {L : List UInt8} (hj : Ls[j]? = some L) : ∃ q c, vs[j]? = some (.slice q L.length c) ∧ Rd w q (u8s L) ∧ (q = none → L.length = 0 ∧ c = 0) ∧ L.length ≤ c ∧ (L ≠ [] → ∀ a, q = some a → a.block ∉ D) := by
  have hl := (List.getElem?_eq_some_iff.1 hj).1
  obtain ⟨v, hv⟩ : ∃ v, vs[j]? = some v := ⟨_, List.getElem?_eq_getElem (by rw [h.1]; exact hl)⟩
  obtain ⟨q, c, e1, e2, e3, e5, e4⟩ := h.2 j _ L hv hj
  exact ⟨q, c, by rw [hv, e1], e2, e3, e5, e4⟩

/-- a system: the struct at B, the rows' spine at gr, the values' at gv -/
structure Sys (w : World) (B gr gv cr cv k : Nat) (rs vs rr rv : List Value) (Rs Vs : List (List UInt8)) : Prop where
  st : Row w B 116 [.slice (some ⟨gr, 0, none⟩) k cr, .slice (some ⟨gv, 0, none⟩) k cv]
  r : Row w gr 27 (rs ++ rr)
  v : Row w gv 27 (vs ++ rv)
  lr : rs.length = k
  lv : vs.length = k
  er : Ea w [B, gr, gv] rs Rs
  ea : Ea w [B, gr, gv] vs Vs
  ne : B ≠ gr ∧ B ≠ gv ∧ gr ≠ gv
  kc : k ≤ cr ∧ k ≤ cv
section
variable {w w' : World} {B gr gv cr cv k : Nat} {rs vs rr rv : List Value} {Rs Vs : List (List UInt8)}
theorem Sys.only0 (h : Sys w B gr gv cr cv k rs vs rr rv Rs Vs) (ho : Only [] w w') : Sys w' B gr gv cr cv k rs vs rr rv Rs Vs :=
  ⟨h.st.only0 ho, h.r.only0 ho, h.v.only0 ho, h.lr, h.lv, h.er.only0 ho, h.ea.only0 ho, h.ne, h.kc⟩
theorem Sys.lR (h : Sys w B gr gv cr cv k rs vs rr rv Rs Vs) : Rs.length = k := by rw [← h.er.1, h.lr]
theorem Sys.lV (h : Sys w B gr gv cr cv k rs vs rr rv Rs Vs) : Vs.length = k := by rw [← h.ea.1, h.lv]
/-- the rows have turned -/
theorem Sys.turnR (h : Sys w B gr gv cr cv k rs vs rr rv Rs Vs) {rs' : List Value} {Rs' : List (List UInt8)} (ho : Only [gr] w w') (hr : Row w' gr 27 (rs' ++ rr)) (hl : rs'.length = k) (he : Ea w' [B, gr, gv] rs' Rs') :
    Sys w' B gr gv cr cv k rs' vs rr rv Rs' Vs :=
  ⟨h.st.only ho (by simp; exact h.ne.1), hr, h.v.only ho (by simp; exact fun e => h.ne.2.2 e.symm), hl, h.lv, he, h.ea.only ho (by simp), h.ne, h.kc⟩
theorem Sys.turnV (h : Sys w B gr gv cr cv k rs vs rr rv Rs Vs) {vs' : List Value} {Vs' : List (List UInt8)} (ho : Only [gv] w w') (hr : Row w' gv 27 (vs' ++ rv)) (hl : vs'.length = k) (he : Ea w' [B, gr, gv] vs' Vs') :
    Sys w' B gr gv cr cv k rs vs' rr rv Rs Vs' :=
  ⟨h.st.only ho (by simp; exact h.ne.2.1), h.r.only ho (by simp; exact h.ne.2.2), hr, h.lr, hl, h.er.only ho (by simp), he, h.ne, h.kc⟩
end
theorem Ea.swap {w : World} {D : List Nat} {vs : List Value} {Ls : List (List UInt8)} (h : Ea w D vs Ls) {a b : Nat} (ha : a < vs.length) (hb : b < vs.length) : Ea w D (swapL vs a b) (swapL Ls a b) := by
  obtain ⟨La, hLa⟩ : ∃ L, Ls[a]? = some L := ⟨_, List.getElem?_eq_getElem (by rw [← h.1]; exact ha)⟩
  obtain ⟨Lb, hLb⟩ : ∃ L, Ls[b]? = some L := ⟨_, List.getElem?_eq_getElem (by rw [← h.1]; exact hb)⟩
  obtain ⟨qa, ca, a1, a2, a3, a5, a4⟩ := h.at hLa
  obtain ⟨qb, cb, b1, b2, b3, b5, b4⟩ := h.at hLb
  rw [swapL_eq hLa hLb, swapL_eq a1 b1]
  exact (h.set a qb cb Lb b2 b3 b5 b4).set b qa ca La a2 a3 a5 a4

set_option maxHeartbeats 4000000 in
theorem exchange_any (w0 : World) (B gr gv cr cv k a b : Nat) (rs vs rr rv : List Value) (Rs Vs : List (List UInt8)) (h : Sys w0 B gr gv cr cv k rs vs rr rv Rs Vs) (ha : a < k) (hb : b < k) (hk : k ≤ 1000) :
    Calls Tryd.prog 72 #[.pointer (some ⟨B, 0, none⟩), .int .i64 (a : Int), .int .i64 (b : Int)] w0 fun e w' => e = .returned (.tuple #[]) ∧ Sys w' B gr gv cr cv k (swapL rs a b) (swapL vs a b) rr rv (swapL Rs a b) (swapL Vs a b) ∧ Only [gr, gv] w0 w' := by
  have c0 := h.st.cell (i := 0) rfl
  have c1 := h.st.cell (i := 1) rfl
  have ha' : (a : Int) < (k : Int) := by omega
  have hb' : (b : Int) < (k : Int) := by omega
  have hkR := h.lR
  have hkV := h.lV
  obtain ⟨qxa, cxa, hxa, -⟩ := h.er.at (List.getElem?_eq_getElem (show a < Rs.length by omega))
  obtain ⟨qxb, cxb, hxb, -⟩ := h.er.at (List.getElem?_eq_getElem (show b < Rs.length by omega))
  obtain ⟨qya, cya, hya, -⟩ := h.ea.at (List.getElem?_eq_getElem (show a < Vs.length by omega))
  obtain ⟨qyb, cyb, hyb, -⟩ := h.ea.at (List.getElem?_eq_getElem (show b < Vs.length by omega))
  generalize Rs[a].length = nxa at hxa
  generalize Rs[b].length = nxb at hxb
  generalize Vs[a].length = nya at hya
  generalize Vs[b].length = nyb at hyb
  have ra := h.r.cell (show (rs ++ rr)[a]? = some (.slice qxa nxa cxa) by rw [List.getElem?_append_left (by rw [h.lr]; exact ha)]; exact hxa)
  have rb := h.r.cell (show (rs ++ rr)[b]? = some (.slice qxb nxb cxb) by rw [List.getElem?_append_left (by rw [h.lr]; exact hb)]; exact hxb)
  have va := h.v.cell (show (vs ++ rv)[a]? = some (.slice qya nya cya) by rw [List.getElem?_append_left (by rw [h.lv]; exact ha)]; exact hya)
  have vb := h.v.cell (show (vs ++ rv)[b]? = some (.slice qyb nyb cyb) by rw [List.getElem?_append_left (by rw [h.lv]; exact hb)]; exact hyb)
  have fra := h.r.free a
  have frb := h.r.free b
  have fva := h.v.free a
  have fvb := h.v.free b
  obtain ⟨n1, n2, n3⟩ := h.ne
  have H := Lib.hid h
  have Hxa := Lib.hid hxa
  have Hxb := Lib.hid hxb
  have Hya := Lib.hid hya
  have Hyb := Lib.hid hyb
  have HkR := Lib.hid hkR
  have HkV := Lib.hid hkV
  clear h hxa hxb hya hyb hkR hkV
  obtain ⟨u1, hu1⟩ : ∃ v, (w0.setCell ⟨gr, a, none⟩ (.slice qxb nxb cxb)).cell? ⟨gr, b, none⟩ = some v := ⟨_, (H.out.r.setCell a (.slice qxb nxb cxb)).cell (i := b) (List.getElem?_eq_getElem (by rw [List.length_set, List.length_append, H.out.lr]; omega))⟩
  go_enter Tryd.func72, Tryd.ntmps72
  go_wp2_with fail
  go_region
  obtain ⟨w1, hw1⟩ : ∃ w1, w1 = ((w0.setCell ⟨gr, a, none⟩ (.slice qxb nxb cxb)).setCell ⟨gr, b, none⟩ (.slice qxa nxa cxa)).drew := ⟨_, rfl⟩
  rw [← hw1]
  have hla : a < rs.length := by rw [H.out.lr]; exact ha
  have hlb : b < rs.length := by rw [H.out.lr]; exact hb
  have hlva : a < vs.length := by rw [H.out.lv]; exact ha
  have hlvb : b < vs.length := by rw [H.out.lv]; exact hb
  have o1 : Only [gr] w0 w1 := by
    rw [hw1]
    exact (((Only.setCell w0 ⟨gr, a, none⟩ _).trans (Only.setCell _ ⟨gr, b, none⟩ _) (fun i hi _ => hi)).trans0 (Only.drew _))
  have S1 : Sys w1 B gr gv cr cv k (swapL rs a b) vs rr rv (swapL Rs a b) Vs := by
    refine H.out.turnR o1 ?_ (by rw [swapL_len]; exact H.out.lr) ((H.out.er.only o1 (by simp)).swap hla hlb)
    rw [swapL_eq Hxa.out Hxb.out, hw1]
    have h1 := ((H.out.r.setCell a (.slice qxb nxb cxb)).setCell b (.slice qxa nxa cxa)).only0 (Only.drew _)
    rw [List.set_append_left _ _ hla, List.set_append_left _ _ (by rw [List.length_set]; exact hlb)] at h1
    exact h1
  obtain ⟨w2, hw2⟩ : ∃ w2, w2 = ((w1.setCell ⟨gv, a, none⟩ (.slice qyb nyb cyb)).setCell ⟨gv, b, none⟩ (.slice qya nya cya)).drew := ⟨_, rfl⟩
  have o2 : Only [gv] w1 w2 := by
    rw [hw2]
    exact (((Only.setCell w1 ⟨gv, a, none⟩ _).trans (Only.setCell _ ⟨gv, b, none⟩ _) (fun i hi _ => hi)).trans0 (Only.drew _))
  have S2 : Sys w2 B gr gv cr cv k (swapL rs a b) (swapL vs a b) rr rv (swapL Rs a b) (swapL Vs a b) := by
    refine S1.turnV o2 ?_ (by rw [swapL_len]; exact H.out.lv) ((S1.ea.only o2 (by simp)).swap hlva hlvb)
    rw [swapL_eq Hya.out Hyb.out, hw2]
    have h1 := ((S1.v.setCell a (.slice qyb nyb cyb)).setCell b (.slice qya nya cya)).only0 (Only.drew _)
    rw [List.set_append_left _ _ hlva, List.set_append_left _ _ (by rw [List.length_set]; exact hlvb)] at h1
    exact h1
  have HS2 := Lib.hid S2
  have Ho2 : Hid (Only [gr, gv] w0 w2) := Lib.hid ((o1.mono (by simp)).trans o2 (by simp))
  clear c0 c1 ra rb va vb fra frb fva fvb hu1 hw1
  have c1 := S1.st.cell (i := 1) rfl
  have va := S1.v.cell (show (vs ++ rv)[a]? = some (.slice qya nya cya) by rw [List.getElem?_append_left hlva]; exact Hya.out)
  have vb := S1.v.cell (show (vs ++ rv)[b]? = some (.slice qyb nyb cyb) by rw [List.getElem?_append_left hlvb]; exact Hyb.out)
  have fva := S1.v.free a
  have fvb := S1.v.free b
  obtain ⟨u2, hu2⟩ : ∃ v, (w1.setCell ⟨gv, a, none⟩ (.slice qyb nyb cyb)).cell? ⟨gv, b, none⟩ = some v := ⟨_, (S1.v.setCell a (.slice qyb nyb cyb)).cell (i := b) (List.getElem?_eq_getElem (by rw [List.length_set, List.length_append]; omega))⟩
  have Hw2 := Lib.hid hw2
  clear S1 S2 o1 o2 hla hlb hlva hlvb H hw2 HkR HkV Hxa Hxb
  go_wp2_with fail
  go_region
  rw [← Hw2.out]
  go_wp2_with fail
  (first | go_end0 | ((try simp only [Exit.inBlock, Exit.then]); refine bodyPost_ret (results_none rfl _ _ _) rfl ?_))
  exact ⟨rfl, HS2.out, Ho2.out⟩
end Go.Proofs.YtlgcclhepegggaaDoor
