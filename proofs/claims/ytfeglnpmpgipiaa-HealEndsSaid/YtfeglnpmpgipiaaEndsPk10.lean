/- EndsPk, part 10: InForm10W, RefL, PiecesW, Ref11Put, Ref22In, Ref11Upl, Ref11Floors, RisingW, BlobsW, CmpW, FindIdW, FloorW, ShelfCmpW, SpareW, MissW, Ref11Bl, Alive22W. -/
import Derived.Test.YtfeglnpmpgipiaaEndsPk03
import Derived.Test.YtfeglnpmpgipiaaEndsPk05
import Derived.Test.YtfeglnpmpgipiaaEndsPk06
import Derived.Test.YtfeglnpmpgipiaaEndsPk07
import Derived.Test.YtfeglnpmpgipiaaEndsPk09
import Derived.Laws.StructEq
set_option linter.unusedVariables false
set_option maxRecDepth 100000
section
set_option linter.unusedVariables false
set_option maxRecDepth 100000
namespace Go.Proofs.Ytfeglnpmpgipiaa
open Go.RowKit
theorem cmdOk_of {m z z' : LCmd} {b b' : Bool} (hid : idOk m.x.id.node m.x.id.boot m.x.id.seq) (hm : MidOk m z b) (hs : Sw m z z' b b') (ht : TailOk m z') (hb : b' = true) : CmdOk m.x ∧ m.x.parts.length ≤ 16 := by
 have hb0 := hs.ok hb; have hz : z.x.parts = [] := (by have := hm.zz; exact congrArg (fun c : LCmd => c.x.parts) this); have hpl : m.x.kind ≠ 7 → m.x.parts.length = 0 := fun h => (by rw [← ht.parts, hs.pl h, hz]; rfl); refine ⟨⟨hs.klo, hs.khi, hid.1, hid.2.1, hm.bk hb0 (hs.bk.symm.trans ht.bucket), hm.ky hb0 (hs.ky.symm.trans ht.key), hs.pc hb, hs.part hb, fun h => (hs.prt hb h).1, fun h => (hs.prt hb h).2, ht.tt.1, ht.tt.2, ht.dd.1, ht.dd.2⟩, ?_⟩
 by_cases h7 : m.x.kind = 7
 ·exact parts_len (hs.prt hb h7).2.1 (hs.prt hb h7).2.2
 ·have := hpl h7; omega
set_option maxHeartbeats 16000000 in
theorem inForm10_any (m : LCmd) (w0 : World) (hm : CmAt w0 m) (hs : Short m) :
  Calls Try.prog 14 #[lmV m] w0 fun e w' => ∃ v, e = .returned (.bool v) ∧ (v = true → CmdOk m.x ∧ m.x.parts.length ≤ 16) ∧ Only [] w0 w' := by
 go_enter Try.func14, Try.ntmps14
 refine inForm_pre _ m w0 ?_ ?_
 ·intro a w' h1 h2 h3; exact bodyPost_ret (results_tmp rfl _ _ _) h2 ⟨false, by rw [Array.getD_eq_getD_getElem?] at h1; simp only [Array.getD_eq_getD_getElem?]; rw [h1], fun h => absurd h (by decide), h3⟩
 ·intro u9 u10 u11 u12 u13 u14 u15 u16 u17 X Z w1 hne rX rZ o1 hzl hid; refine inForm_mid _ m X Z w1 hne rX rZ hs ?_; intro v5 v6 v18 v19 v20 v21 v22 v23 v24 v25 v26 v27 v28 v29 v30 v31 v32 v33 v34 v35 v36 v37 v38 v39 v40 v41 v42 v43 v44 v45 v46 v47 v48 v49 v50 b z w2 rX2 rZ2 o2 mid
  have hend : ∀ (a : Act) (v : Bool) (w w' : World), a.tmps.getD 2 undef = .bool v → a.defers = [] → (v = true → CmdOk m.x ∧ m.x.parts.length ≤ 16) → Only [Z] w2 w → Only [] w w' →
    bodyPost Try.prog Try.f14 (fun e w' => ∃ v, e = .returned (.bool v) ∧ (v = true → CmdOk m.x ∧ m.x.parts.length ≤ 16) ∧ Only [] w0 w') .ret a w' := by
   intro a v w w' h1 h2 h3 h4 h5; refine bodyPost_ret (results_tmp rfl _ _ _) h2 ⟨v, by rw [Array.getD_eq_getD_getElem?] at h1; simp only [Array.getD_eq_getD_getElem?]; rw [h1], h3, ?_⟩; exact (o1.transN (o2.trans (h4.trans0 h5) (fun i hi _ => hi)) (by simp; exact hzl))
  have hsw : m.x.kind = 3 ∨ m.x.kind = 6 ∨ m.x.kind = 7 ∨ (m.x.kind ≠ 3 ∧ m.x.kind ≠ 6 ∧ m.x.kind ≠ 7) := by omega
  have hpz : m.x.parts ≠ [] → ∀ z ∈ blk m.p, z ≠ Z := fun hne2 z hz e => by
   obtain ⟨b1, off, hp, hb⟩ := hm.1.lt (fun e2 => hne2 (by simpa [ziCells] using e2)); rw [hp] at hz
   simp [blk] at hz
   omega
  have hm2 : CmAt w2 m := by
   by_cases hpe : m.x.parts = []
   ·exact ⟨.inl (by rw [hpe]; rfl), hm.2⟩
   ·exact (hm.only0 o1).only o2 (fun z hz hc => hpz hpe z hz (by simpa using hc))
  rcases hsw with hk | hk | hk | hk
  ·refine inForm_k3 inFormTail m z X Z b w2 hne rX2 rZ2 hs hk ?_; intro s7 s8 s51 s52 s53 s54 s55 s56 s57 s58 s59 s60 s61 s62 s63 s64 s65 s66 s67 s68 s69 s70 s71 s72 s73 s74 s75 s76 s77 s78 s79 s80 s81 s82 s83 s84 s85 s86 s87 s88 s89 s90 s91 s92 s93 s94 s95 s96 s97 s98 s99 s100 s101 s102 s103 s104 s105 s106 s107 s108 s109 s110 s111 s112 s113 s114 s115 s116 s117 s118 s119 s120 s121 s122 s123 s124 s125 s126 s127 s128 s129 s130 s131 s132 s133 s134 s135 s136 s137 s138 s139 s140 s141 s142 s143 s144 s145 s146 s147 s148 s149 s150 s151 s152 s153 s154 s155 s156 s157 s158 s159 s160 s161 s162 s163 s164 s165 s166 s167 s168 s169 s170 s171 s172 s173 s174 s175 s176 s177 s178 s179 s180 b' z' w3 rX3 rZ3 o3 sw
   refine inForm_tail X Z m z' b' w3 rX3 rZ3 ?_; intro a v w4 h1 h2 h3 h4; exact hend a v w3 w4 h1 h2 (fun hv => cmdOk_of hid mid sw (h3 hv).2 (h3 hv).1) o3 h4
  ·refine inForm_k6 inFormTail m z X Z b w2 hne rX2 rZ2 hs hk ?_; intro s7 s8 s51 s52 s53 s54 s55 s56 s57 s58 s59 s60 s61 s62 s63 s64 s65 s66 s67 s68 s69 s70 s71 s72 s73 s74 s75 s76 s77 s78 s79 s80 s81 s82 s83 s84 s85 s86 s87 s88 s89 s90 s91 s92 s93 s94 s95 s96 s97 s98 s99 s100 s101 s102 s103 s104 s105 s106 s107 s108 s109 s110 s111 s112 s113 s114 s115 s116 s117 s118 s119 s120 s121 s122 s123 s124 s125 s126 s127 s128 s129 s130 s131 s132 s133 s134 s135 s136 s137 s138 s139 s140 s141 s142 s143 s144 s145 s146 s147 s148 s149 s150 s151 s152 s153 s154 s155 s156 s157 s158 s159 s160 s161 s162 s163 s164 s165 s166 s167 s168 s169 s170 s171 s172 s173 s174 s175 s176 s177 s178 s179 s180 b' z' w3 rX3 rZ3 o3 sw
   refine inForm_tail X Z m z' b' w3 rX3 rZ3 ?_; intro a v w4 h1 h2 h3 h4; exact hend a v w3 w4 h1 h2 (fun hv => cmdOk_of hid mid sw (h3 hv).2 (h3 hv).1) o3 h4
  ·refine inForm_k7 inFormTail m z X Z b w2 hne rX2 rZ2 hs hm2 hpz hk ?_; intro s7 s8 s51 s52 s53 s54 s55 s56 s57 s58 s59 s60 s61 s62 s63 s64 s65 s66 s67 s68 s69 s70 s71 s72 s73 s74 s75 s76 s77 s78 s79 s80 s81 s82 s83 s84 s85 s86 s87 s88 s89 s90 s91 s92 s93 s94 s95 s96 s97 s98 s99 s100 s101 s102 s103 s104 s105 s106 s107 s108 s109 s110 s111 s112 s113 s114 s115 s116 s117 s118 s119 s120 s121 s122 s123 s124 s125 s126 s127 s128 s129 s130 s131 s132 s133 s134 s135 s136 s137 s138 s139 s140 s141 s142 s143 s144 s145 s146 s147 s148 s149 s150 s151 s152 s153 s154 s155 s156 s157 s158 s159 s160 s161 s162 s163 s164 s165 s166 s167 s168 s169 s170 s171 s172 s173 s174 s175 s176 s177 s178 s179 s180 b' z' w3 rX3 rZ3 o3 sw
   refine inForm_tail X Z m z' b' w3 rX3 rZ3 ?_; intro a v w4 h1 h2 h3 h4; exact hend a v w3 w4 h1 h2 (fun hv => cmdOk_of hid mid sw (h3 hv).2 (h3 hv).1) o3 h4
  ·refine inForm_ks inFormTail m z X Z b w2 hne rX2 rZ2 hk ?_ ?_
   ·intro a w4 h1 h2 h4; exact hend a false w2 w4 h1 h2 (fun h => absurd h (by decide)) (Only.refl _ _) h4
   intro s7 s8 s51 s52 s53 s54 s55 s56 s57 s58 s59 s60 s61 s62 s63 s64 s65 s66 s67 s68 s69 s70 s71 s72 s73 s74 s75 s76 s77 s78 s79 s80 s81 s82 s83 s84 s85 s86 s87 s88 s89 s90 s91 s92 s93 s94 s95 s96 s97 s98 s99 s100 s101 s102 s103 s104 s105 s106 s107 s108 s109 s110 s111 s112 s113 s114 s115 s116 s117 s118 s119 s120 s121 s122 s123 s124 s125 s126 s127 s128 s129 s130 s131 s132 s133 s134 s135 s136 s137 s138 s139 s140 s141 s142 s143 s144 s145 s146 s147 s148 s149 s150 s151 s152 s153 s154 s155 s156 s157 s158 s159 s160 s161 s162 s163 s164 s165 s166 s167 s168 s169 s170 s171 s172 s173 s174 s175 s176 s177 s178 s179 s180 b' z' w3 rX3 rZ3 o3 sw
   refine inForm_tail X Z m z' b' w3 rX3 rZ3 ?_; intro a v w4 h1 h2 h3 h4; exact hend a v w3 w4 h1 h2 (fun hv => cmdOk_of hid mid sw (h3 hv).2 (h3 hv).1) o3 h4
end Go.Proofs.Ytfeglnpmpgipiaa
end
section
set_option linter.unusedVariables false
set_option maxRecDepth 100000
namespace Go.Proofs.Ytfeglnpmpgipiaa
open Go.RowKit
def putLs (o : LObj) (s : List LObj × Bool) (x : LObj) : List LObj × Bool :=
 ((s.1 ++ (if s.2 = false ∧ ¬ lt x.o.key o.o.key then [o] else [])) ++ (if x.o.key = o.o.key then [] else [x]), s.2 || !decide (lt x.o.key o.o.key))
def putLF (os : List LObj) (o : LObj) : List LObj × Bool := os.foldl (putLs o) ([], false)
def putLL (os : List LObj) (o : LObj) : List LObj := if (putLF os o).2 then (putLF os o).1 else (putLF os o).1 ++ [o]
theorem putLs_map (o : LObj) : ∀ (xs acc : List LObj) (b : Bool), (xs.map LObj.o).foldl (putRs o.o) (acc.map LObj.o, b) = ((xs.foldl (putLs o) (acc, b)).1.map LObj.o, (xs.foldl (putLs o) (acc, b)).2)
 | [], acc, b => rfl
 | x :: xs, acc, b => by
  rw [List.map_cons, List.foldl_cons, List.foldl_cons]
  have h : putRs o.o (acc.map LObj.o, b) x.o = ((putLs o (acc, b) x).1.map LObj.o, (putLs o (acc, b) x).2) := by
   unfold putRs putLs; simp only [List.map_append, Prod.mk.injEq, and_true]
   congr 1
   ·congr 1
    split <;> simp_all
   ·split <;> simp_all
  rw [h]; exact putLs_map o xs _ _
theorem putLL_map (os : List LObj) (o : LObj) : (putLL os o).map LObj.o = putR (os.map LObj.o) o.o := by
 have h := putLs_map o os [] false; unfold putLL putR putLF; rw [List.map_nil] at h; rw [h]; dsimp only
 split <;> simp
theorem putLs_mem (o : LObj) (P : LObj → Prop) (ho : P o) : ∀ (xs acc : List LObj) (b : Bool), (∀ x ∈ acc, P x) → (∀ x ∈ xs, P x) → ∀ x ∈ (xs.foldl (putLs o) (acc, b)).1, P x
 | [], acc, b, ha, _ => ha
 | x :: xs, acc, b, ha, hx => by
  rw [List.foldl_cons]; refine putLs_mem o P ho xs _ _ (fun y hy => ?_) (fun y hy => hx y (List.mem_cons_of_mem _ hy)); dsimp only [putLs] at hy
  rcases List.mem_append.1 hy with hy | hy
  ·rcases List.mem_append.1 hy with hy | hy
   ·exact ha y hy
   ·split at hy
    ·rw [List.mem_singleton.1 hy]; exact ho
    ·cases hy
  ·split at hy
   ·cases hy
   ·rw [List.mem_singleton.1 hy]; exact hx x (List.mem_cons_self ..)
theorem putLL_mem {os : List LObj} {o : LObj} {P : LObj → Prop} (ho : P o) (hs : ∀ x ∈ os, P x) : ∀ x ∈ putLL os o, P x := by
 intro x hx; unfold putLL at hx
 split at hx
 ·exact putLs_mem o P ho os [] false (by simp) hs x hx
 ·rcases List.mem_append.1 hx with hx | hx
  ·exact putLs_mem o P ho os [] false (by simp) hs x hx
  ·rw [List.mem_singleton.1 hx]; exact ho
theorem putLs_len (o : LObj) : ∀ (xs acc : List LObj) (b : Bool), (xs.foldl (putLs o) (acc, b)).1.length ≤ acc.length + 2 * xs.length
 | [], acc, b => by simp
 | x :: xs, acc, b => by
  rw [List.foldl_cons]; have h := putLs_len o xs (putLs o (acc, b) x).1 (putLs o (acc, b) x).2
  have h2 : (putLs o (acc, b) x).1.length ≤ acc.length + 2 := by
   dsimp only [putLs]; rw [List.length_append, List.length_append]; have h3 : (if b = false ∧ ¬ lt x.o.key o.o.key then [o] else []).length ≤ 1 := (by split <;> simp); have h4 : (if x.o.key = o.o.key then [] else [x]).length ≤ 1 := (by split <;> simp); omega
  rw [List.length_cons]; have e : (putLs o (acc, b) x).1.length + 2 * xs.length ≤ acc.length + 2 * (xs.length + 1) := (by omega); exact Nat.le_trans h e
theorem putLF_succ {os : List LObj} {o x : LObj} {i : Nat} (h : os[i]? = some x) : putLF (os.take (i + 1)) o = putLs o (putLF (os.take i) o) x := by
 unfold putLF; rw [List.take_add_one, h, List.foldl_append]; rfl
theorem putLF_len (os : List LObj) (o : LObj) (i : Nat) : (putLF (os.take i) o).1.length ≤ 2 * i := by
 have h := putLs_len o (os.take i) [] false; have h2 : (os.take i).length ≤ i := (by simp; omega); unfold putLF; simp only [List.length_nil, Nat.zero_add] at h; omega
def withoutL (us : List LUpl) (id : Cid) : List LUpl := us.filter fun u => decide (u.u.id ≠ id)
theorem withoutL_map (us : List LUpl) (id : Cid) : (withoutL us id).map LUpl.u = withoutR (us.map LUpl.u) id := by
 unfold withoutL withoutR; rw [List.filter_map]; rfl
def delOL (os : List LObj) (k : Bs) : List LObj := os.filter fun o => decide (o.o.key ≠ k)
theorem delOL_map (os : List LObj) (k : Bs) : (delOL os k).map LObj.o = (os.map LObj.o).filter (fun o => decide (o.key ≠ k)) := by
 unfold delOL; rw [List.filter_map]; rfl
theorem filter_take {α : Type} {xs : List α} {p : α → Bool} {i : Nat} {x : α} (h : xs[i]? = some x) : (xs.take (i + 1)).filter p = (xs.take i).filter p ++ (if p x = true then [x] else []) := by
 rw [List.take_add_one, h, List.filter_append]
 congr 1
 by_cases hp : p x = true <;> simp [hp]
theorem filter_take_len {α : Type} (xs : List α) (p : α → Bool) (i : Nat) : ((xs.take i).filter p).length ≤ i := by
 have h := List.length_filter_le p (xs.take i); have h2 : (xs.take i).length ≤ i := (by simp; omega); omega
def startLs (u : LUpl) (s : List LUpl × Bool) (x : LUpl) : List LUpl × Bool :=
 ((s.1 ++ (if s.2 = false ∧ ltI u.u.id x.u.id then [u] else [])) ++ [x], s.2 || decide (ltI u.u.id x.u.id))
def startLF (us : List LUpl) (u : LUpl) : List LUpl × Bool := us.foldl (startLs u) ([], false)
def startLL (us : List LUpl) (u : LUpl) : List LUpl := if (startLF (withoutL us u.u.id) u).2 then (startLF (withoutL us u.u.id) u).1 else (startLF (withoutL us u.u.id) u).1 ++ [u]
theorem startLs_map (u : LUpl) : ∀ (xs acc : List LUpl) (b : Bool), (xs.map LUpl.u).foldl (startRs u.u) (acc.map LUpl.u, b) = ((xs.foldl (startLs u) (acc, b)).1.map LUpl.u, (xs.foldl (startLs u) (acc, b)).2)
 | [], acc, b => rfl
 | x :: xs, acc, b => by
  rw [List.map_cons, List.foldl_cons, List.foldl_cons]
  have h : startRs u.u (acc.map LUpl.u, b) x.u = ((startLs u (acc, b) x).1.map LUpl.u, (startLs u (acc, b) x).2) := by
   unfold startRs startLs; simp only [List.map_append, Prod.mk.injEq, and_true]
   congr 1
   congr 1
   split <;> simp_all
  rw [h]; exact startLs_map u xs _ _
theorem startLL_map (us : List LUpl) (u : LUpl) : (startLL us u).map LUpl.u = startR (us.map LUpl.u) u.u := by
 have h := startLs_map u (withoutL us u.u.id) [] false; unfold startLL startR startLF; rw [List.map_nil, withoutL_map] at h; rw [h]; dsimp only
 split <;> simp
theorem startLs_mem (u : LUpl) (P : LUpl → Prop) (ho : P u) : ∀ (xs acc : List LUpl) (b : Bool), (∀ x ∈ acc, P x) → (∀ x ∈ xs, P x) → ∀ x ∈ (xs.foldl (startLs u) (acc, b)).1, P x
 | [], acc, b, ha, _ => ha
 | x :: xs, acc, b, ha, hx => by
  rw [List.foldl_cons]; refine startLs_mem u P ho xs _ _ (fun y hy => ?_) (fun y hy => hx y (List.mem_cons_of_mem _ hy)); dsimp only [startLs] at hy
  rcases List.mem_append.1 hy with hy | hy
  ·rcases List.mem_append.1 hy with hy | hy
   ·exact ha y hy
   ·split at hy
    ·rw [List.mem_singleton.1 hy]; exact ho
    ·cases hy
  ·rw [List.mem_singleton.1 hy]; exact hx x (List.mem_cons_self ..)
theorem startLL_mem {us : List LUpl} {u : LUpl} {P : LUpl → Prop} (ho : P u) (hs : ∀ x ∈ us, P x) : ∀ x ∈ startLL us u, P x := by
 intro x hx; have hw : ∀ x ∈ withoutL us u.u.id, P x := fun x hx => hs x (List.mem_filter.1 hx).1; unfold startLL at hx
 split at hx
 ·exact startLs_mem u P ho _ [] false (by simp) hw x hx
 ·rcases List.mem_append.1 hx with hx | hx
  ·exact startLs_mem u P ho _ [] false (by simp) hw x hx
  ·rw [List.mem_singleton.1 hx]; exact ho
theorem startLs_len (u : LUpl) : ∀ (xs acc : List LUpl) (b : Bool), (xs.foldl (startLs u) (acc, b)).1.length ≤ acc.length + 2 * xs.length
 | [], acc, b => by simp
 | x :: xs, acc, b => by
  rw [List.foldl_cons]; have h := startLs_len u xs (startLs u (acc, b) x).1 (startLs u (acc, b) x).2
  have h2 : (startLs u (acc, b) x).1.length ≤ acc.length + 2 := by
   dsimp only [startLs]; rw [List.length_append, List.length_append]; have h3 : (if b = false ∧ ltI u.u.id x.u.id then [u] else []).length ≤ 1 := (by split <;> simp); simp only [List.length_cons, List.length_nil]; omega
  rw [List.length_cons]; have e : (startLs u (acc, b) x).1.length + 2 * xs.length ≤ acc.length + 2 * (xs.length + 1) := (by omega); exact Nat.le_trans h e
theorem startLF_succ {us : List LUpl} {u x : LUpl} {i : Nat} (h : us[i]? = some x) : startLF (us.take (i + 1)) u = startLs u (startLF (us.take i) u) x := by
 unfold startLF; rw [List.take_add_one, h, List.foldl_append]; rfl
theorem startLF_len (us : List LUpl) (u : LUpl) (i : Nat) : (startLF (us.take i) u).1.length ≤ 2 * i := by
 have h := startLs_len u (us.take i) [] false; have h2 : (us.take i).length ≤ i := (by simp; omega); unfold startLF; simp only [List.length_nil, Nat.zero_add] at h; omega
end Go.Proofs.Ytfeglnpmpgipiaa
end
section
set_option linter.unusedVariables false
set_option maxRecDepth 100000
namespace Go.Proofs.Ytfeglnpmpgipiaa
open Go.RowKit Go.Shelf
attribute [local go_sem] Oper.semAt_some
def EncP : Pc → Array Value → List Nat → World → Prop := fun p vs G _ => vs = #[pcV p] ∧ G = []
def PcsAt (w : World) (c1 : Nat) (b : LBk) : Prop := Row w c1 63 (lbCells b) ∧ BkOwn w 0 b
def pcsCap (c1 : Nat) (b : LBk) : List Nat := c1 :: b.fp
theorem PcsAt.only {S : List Nat} {w w' : World} {c1 : Nat} {b : LBk} (h : PcsAt w c1 b) (ho : Only S w w') (hS : ∀ x ∈ pcsCap c1 b, x ∉ S) : PcsAt w' c1 b :=
 ⟨h.1.only ho (hS _ (by simp [pcsCap])), h.2.only ho (fun z hz => hS z (by simp [pcsCap, hz]))⟩
theorem PcsAt.lt {w : World} {c1 : Nat} {b : LBk} (h : PcsAt w c1 b) : ∀ x ∈ pcsCap c1 b, x < w.heap.size := fun x hx => by
 rcases List.mem_cons.1 hx with rfl | hx
 ·exact h.1.lt
 ·exact (h.2.lo x hx).2
def pcsF (c1 : Nat) : Value := .func (.func 45) #[] #[.pointer (some ⟨c1, 0, none⟩)]
set_option maxHeartbeats 4000000 in
theorem pieces_any (b : LBk) (w : World) : Calls Try.prog 31 #[lbV b] w fun e w' => ∃ c1, e = .returned (pcsF c1) ∧ Row w' c1 63 (lbCells b) ∧ Only [] w w' ∧ w.heap.size ≤ c1 := by
 obtain ⟨w1, hw1⟩ : ∃ w1, w1 = w.alloc (.cells #[.string (str b.name), .int .i64 b.time, .int .i64 b.days, .slice b.po b.os.length b.co, .slice b.pu b.us.length b.cu] 63) := ⟨_, rfl⟩; have o1 : Only [] w w1 := (by rw [hw1]; exact Only.alloc _ _); have r1 : Row w1 w.heap.size 63 (lbCells b) := (by rw [hw1]; exact Row.newOf _ _ _ _ rfl); have Ho := Lib.hid o1; have Hr := Lib.hid r1; have Hw := Lib.hid hw1; unfold lbV; clear o1 r1 hw1
 go_enter Try.func31, Try.ntmps31
 go_wp2_with fail; rw [← Hw.out]
 go_ret
 exact ⟨_, rfl, Hr.out, Ho.out, Nat.le_refl _⟩
theorem flat_split {β γ : Type} {g : β → List γ} {xs : List β} {i j : Nat} {x : β} {p : γ} (hx : xs[i]? = some x) (hp : (g x)[j]? = some p) : ∃ zs, xs.flatMap g = ((xs.take i).flatMap g ++ (g x).take j) ++ p :: zs := by
 obtain ⟨hi, hxe⟩ := List.getElem?_eq_some_iff.1 hx; obtain ⟨hj, hpe⟩ := List.getElem?_eq_some_iff.1 hp; refine ⟨(g x).drop (j + 1) ++ (xs.drop (i + 1)).flatMap g, ?_⟩
 have h1 : xs = xs.take i ++ x :: xs.drop (i + 1) := by
  conv => lhs; rw [← List.take_append_drop i xs, List.drop_eq_getElem_cons hi, hxe]
 have h2 : g x = (g x).take j ++ p :: (g x).drop (j + 1) := by
  conv => lhs; rw [← List.take_append_drop j (g x), List.drop_eq_getElem_cons hj, hpe]
 conv => lhs; rw [h1, List.flatMap_append, List.flatMap_cons, h2]
 simp
theorem flat_succ {β γ : Type} {g : β → List γ} {xs : List β} {i : Nat} {x : β} (hx : xs[i]? = some x) : (xs.take (i + 1)).flatMap g = (xs.take i).flatMap g ++ g x := by
 rw [List.take_add_one, hx, List.flatMap_append]; simp
theorem take_snoc' {γ : Type} {l : List γ} {j : Nat} {p : γ} (hp : l[j]? = some p) : l.take (j + 1) = l.take j ++ [p] := by
 rw [List.take_add_one, hp]; rfl
def pcsO (b : LBk) : List Pc := b.os.flatMap fun x => x.o.pcs
def pcsU (b : LBk) : List Pc := b.us.flatMap fun x => x.u.parts.map (·.pc)
theorem bkPcs_eq (b : LBk) : bkPcs b.b = pcsO b ++ pcsU b := by
 unfold bkPcs LBk.b pcsO pcsU; rw [List.flatMap_map, List.flatMap_map]
set_option maxHeartbeats 16000000 in
theorem pieces_seq {w : World} {c1 : Nat} {b : LBk} (h : PcsAt w c1 b) (h1 : b.os.length ≤ 100000) (h2 : b.us.length ≤ 100000) (h3 : ∀ x ∈ b.os, x.o.pcs.length ≤ 100000) (h4 : ∀ x ∈ b.us, x.u.parts.length ≤ 100000) :
  SeqD Try.prog 45 #[.pointer (some ⟨c1, 0, none⟩)] EncP (bkPcs b.b) (pcsCap c1 b) w := by
 intro l J Jx W D o0 hD hJ hJx hY h0; rw [bkPcs_eq] at hY ⊢; have hlt := h.lt; have H := h.only o0 (by simp); obtain ⟨n, hn⟩ : ∃ n, b.os.length = n := ⟨_, rfl⟩; obtain ⟨nu, hnu⟩ : ∃ nu, b.us.length = nu := ⟨_, rfl⟩; have c3 := H.1.cell (i := 3) rfl; obtain ⟨po, hpo⟩ : ∃ po, b.po = po := ⟨_, rfl⟩; rw [hn, hpo] at c3; rw [hn] at h1; have Hpo := Lib.hid hpo; clear hpo; rw [hnu] at h2; have HD : Hid (∀ d ∈ D, d ∉ pcsCap c1 b ∧ d < W.heap.size) := Lib.hid hD; have HJ := Lib.hid hJ; have HY := Lib.hid hY; have H0 : Hid (J [] D W) := Lib.hid h0; have HW : Hid (∀ x ∈ pcsCap c1 b, x < W.heap.size) := Lib.hid (fun x hx => Nat.lt_of_lt_of_le (hlt x hx) o0.size)
 have HB0 := Lib.hid H; have Hn := Lib.hid hn; have Hnu := Lib.hid hnu; have H3 := Lib.hid h3; have H4 := Lib.hid h4; clear h hD hJ hY h0 hlt hJx H o0 hn hnu h3 h4; refine (callsIn_wide (n := 10)).1 ?_; refine callsIn_of_wp Try.func45 rfl trivial ?_; simp only [Try.ntmps45, List.size_toArray, List.length_cons, List.length_nil, Nat.reduceAdd, Nat.reduceSub, Array.replicate_succ, Array.replicate_zero, List.push_toArray, List.append_toArray, List.nil_append, List.cons_append]
 gi_wp2_with fail
 clear c3
 gi_loopw [14] (fun a wr => ∃ (i : Nat) (D : List Nat), a = .int .i64 (i : Int) ∧ i ≤ n ∧ Hid (J ((b.os.take i).flatMap (fun x => x.o.pcs)) D wr) ∧ Hid (PcsAt wr c1 b) ∧ Hid (∀ d ∈ D, d ∉ pcsCap c1 b ∧ d < wr.heap.size) ∧ Hid (W.heap.size ≤ wr.heap.size)) (fun a _ => n - (intOf a).toNat)
 case atStart =>
  exact ⟨0, D, rfl, Nat.zero_le _, Lib.hid H0.out, HB0, HD, Lib.hid (Nat.le_refl _)⟩
 case round =>
  clear H0 HB0; obtain ⟨i, D, rfl, hi, HJi, HB, HDi, HS⟩ := hrel
  by_cases hlt : i < n
  ·obtain ⟨x, hxx⟩ : ∃ x, b.os[i]? = some x := ⟨_, List.getElem?_eq_getElem (by rw [Hn.out]; exact hlt)⟩; obtain ⟨g, hg, -, -⟩ := HB.out.2.so.at (by rw [Hn.out]; omega); have hrd := HB.out.2.so.view.2.2.1; rw [hg] at hrd; obtain rfl : po = some _ := Hpo.out.symm.trans hg; have d0 := rd_elem loCells_len hrd hxx (r := 0) rfl; have d1 := rd_elem loCells_len hrd hxx (r := 1) rfl; have d2 := rd_elem loCells_len hrd hxx (r := 2) rfl; have d3 := rd_elem loCells_len hrd hxx (r := 3) rfl; have d4 := rd_elem loCells_len hrd hxx (r := 4) rfl; rw [Addr.add_lit, Nat.zero_add] at d0 d1 d2 d3 d4; rw [Nat.add_zero] at d0
   obtain ⟨m, hm⟩ : ∃ m, x.o.pcs.length = m := ⟨_, rfl⟩; have hm5 : m ≤ 100000 := (by rw [← hm]; exact H3.out x (List.mem_of_getElem? hxx)); obtain ⟨wt, hwt⟩ : ∃ wt, wt = wr.alloc (.cells #[.string (str x.o.key), .int .i64 x.o.size, .string (str x.o.etag), .int .i64 x.o.time, .slice x.q x.o.pcs.length x.c] 65) := ⟨_, rfl⟩; have ot : Only [] wr wt := (by rw [hwt]; exact Only.alloc _ _); have rt : Row wt wr.heap.size 65 [.string (str x.o.key), .int .i64 x.o.size, .string (str x.o.etag), .int .i64 x.o.time, .slice x.q x.o.pcs.length x.c] := (by rw [hwt]; exact Row.newOf _ _ _ _ rfl); have zp := rt.cell (i := 4) rfl
   have HBt := Lib.hid (HB.out.only ot (by simp)); have HJt : Hid (J ((b.os.take i).flatMap (fun x => x.o.pcs) ++ []) D wt) := Lib.hid (by rw [List.append_nil]; exact HJ.out _ _ _ _ _ HJi.out ot (by simp)); have Hst : Hid (W.heap.size ≤ wt.heap.size) := Lib.hid (Nat.le_trans HS.out ot.size); have HDt : Hid (∀ d ∈ D, d ∉ pcsCap c1 b ∧ d < wt.heap.size) := Lib.hid (fun d hd => ⟨(HDi.out d hd).1, Nat.lt_of_lt_of_le (HDi.out d hd).2 ot.size⟩); have Hxx := Lib.hid hxx; have Hm := Lib.hid hm; have Hxm := Lib.hid (List.mem_of_getElem? hxx); obtain ⟨q, hq⟩ : ∃ q, x.q = q := ⟨_, rfl⟩; rw [hm, hq] at hwt d4 zp
   have Hwt := Lib.hid hwt; have Hq := Lib.hid hq; clear hq hrd hxx hm ot rt hwt hg HB HJi HDi HS
   gi_wp2_with (fail)
   rw [← Hwt.out]
   gi_wp2_with (fail)
   clear d0 d1 d2 d3 d4 Hwt zp; obtain ⟨wo2, hwo2⟩ : ∃ wo2 : World, wo2 = wr := ⟨_, rfl⟩
   gi_loopw [21] (fun a wl => ∃ (j : Nat) (D : List Nat), a = .int .i64 (j : Int) ∧ j ≤ m ∧ Hid (J ((b.os.take i).flatMap (fun x => x.o.pcs) ++ x.o.pcs.take j) D wl) ∧ Hid (PcsAt wl c1 b) ∧ Hid (∀ d ∈ D, d ∉ pcsCap c1 b ∧ d < wl.heap.size) ∧ Hid (W.heap.size ≤ wl.heap.size)) (fun a _ => m - (intOf a).toNat)
   case atStart => exact ⟨0, D, rfl, Nat.zero_le _, HJt, HBt, HDt, Hst⟩
   case round =>
    clear HJt HBt HDt Hst; obtain ⟨j, D, rfl, hj, HJj, HB, HDj, HS⟩ := hrel
    by_cases hlj : j < m
    ·obtain ⟨p, hpp⟩ : ∃ p, x.o.pcs[j]? = some p := ⟨_, List.getElem?_eq_getElem (by rw [Hm.out]; exact hlj)⟩; have hox := HB.out.2.ob x Hxm.out; obtain ⟨gq, hgq, -, -⟩ := OwnK.at hox (by rw [Hm.out]; omega); have hrd := (OwnK.view hox).2.2.1; rw [hgq] at hrd; obtain rfl : q = some _ := Hq.out.symm.trans hgq; clear hgq; have p0 := rd_elem pcCells_len hrd hpp (r := 0) rfl; have p1 := rd_elem pcCells_len hrd hpp (r := 1) rfl; have p2 := rd_elem pcCells_len hrd hpp (r := 2) rfl; have p3 := rd_elem pcCells_len hrd hpp (r := 3) rfl; have p4 := rd_elem pcCells_len hrd hpp (r := 4) rfl; rw [Addr.add_lit, Nat.zero_add] at p0 p1 p2 p3 p4
     rw [Nat.add_zero] at p0; obtain ⟨wx, hwx⟩ : ∃ wx, wx = wr.alloc (.cells #[.int .i64 p.blob.node, .int .i64 p.blob.boot, .int .i64 p.blob.seq, .int .i64 p.size, .string (str p.etag)] 36) := ⟨_, rfl⟩; have ox : Only [] wr wx := (by rw [hwx]; exact Only.alloc _ _); have HBx := Lib.hid (HB.out.only ox (by simp)); have HJx := HJ.out _ _ _ _ _ HJj.out ox (by simp); have Hsx : Hid (W.heap.size ≤ wx.heap.size) := Lib.hid (Nat.le_trans HS.out ox.size); obtain ⟨zs, hzs⟩ := flat_split (g := (fun x : LObj => x.o.pcs)) Hxx.out (j := j) (p := p) hpp; obtain ⟨zt, hzt⟩ : ∃ zt, pcsO b ++ pcsU b = ((b.os.take i).flatMap (fun x => x.o.pcs) ++ x.o.pcs.take j) ++ p :: zt := ⟨zs ++ pcsU b, by show b.os.flatMap (fun x => x.o.pcs) ++ pcsU b = _; rw [hzs]; simp⟩
     obtain ⟨fn, tmps, assign, body, hy, hR⟩ := HY.out _ p _ D wx _ [] HJx hzt ⟨rfl, rfl⟩ (by simp); have HR := Lib.hid hR; have Htk : Hid (x.o.pcs.take (j + 1) = x.o.pcs.take j ++ [p]) := Lib.hid (take_snoc' hpp); have Hwx := Lib.hid hwx; have HDx : Hid (∀ d ∈ D, d < wr.heap.size ∧ d ∉ pcsCap c1 b) := Lib.hid (fun d hd => ⟨(HDj.out d hd).2, (HDj.out d hd).1⟩); unfold pcV at hy; rw [hwx] at hy; clear hR hzs hzt hrd hpp hwx ox HJx HB HJj HDj hox
     gi_wp2_with fail
     rw [← Hwx.out]; refine HR.out.mono ?_; clear hy HR p0 p1 p2 p3 p4; rintro e2 w3 ⟨D', o3, hD3, ⟨rfl, hj3⟩ | ⟨rfl, hj3⟩⟩
     ·have HB3 : Hid (PcsAt w3 c1 b) := Lib.hid (HBx.out.only o3 (fun z hz hm => by
       rw [List.append_nil] at hm
       exact (HDx.out z hm).2 hz))
      have HD3 : Hid (∀ d ∈ D', d ∉ pcsCap c1 b ∧ d < w3.heap.size) := Lib.hid (fun d hd => by
       obtain ⟨h5, h6⟩ := hD3 d hd; refine ⟨fun hm => ?_, h6⟩
       rcases h5 with h5 | h5 | h5
       ·exact (HDx.out d h5).2 hm
       ·cases h5
       ·have := HW.out d hm; have := Hsx.out; omega)
      have HJ3 : Hid (J ((b.os.take i).flatMap (fun x => x.o.pcs) ++ x.o.pcs.take (j + 1)) D' w3) := Lib.hid (by rw [Htk.out, ← List.append_assoc]; exact hj3); have Hs3 : Hid (W.heap.size ≤ w3.heap.size) := Lib.hid (Nat.le_trans Hsx.out o3.size); clear o3 hD3 hj3
      gi_wp2_with fail
      refine ⟨⟨j + 1, D', by go_num, by omega, HJ3, HB3, HD3, Hs3⟩, ?_⟩; show m - ((j : Int) + 1).toNat < m - ((j : Int)).toNat; omega
     ·have Hj := Lib.hid hj3; clear hj3 o3 hD3
      gi_wp2_with fail
      (first | go_end0 | ((try simp only [Exit.inBlock, Exit.then]); refine bodyPost_ret (results_none rfl _ _ _) rfl ?_))
      exact ⟨⟨_, rfl⟩, .inr ⟨_, D', Hj.out⟩⟩
    ·obtain rfl : j = m := by omega
     have HJn : Hid (J ((b.os.take (i + 1)).flatMap (fun x => x.o.pcs)) D wr) := Lib.hid (by
      have h := HJj.out; rw [List.take_of_length_le (l := x.o.pcs) (by rw [Hm.out]; exact Nat.le_refl _)] at h; rw [flat_succ Hxx.out]
      exact h)
     clear HJj
     gi_wp2_with fail
     refine ⟨⟨i + 1, D, by go_num, by omega, HJn, HB, HDj, HS⟩, ?_⟩; show n - ((i : Int) + 1).toNat < n - ((i : Int)).toNat; omega
  ·obtain rfl : i = n := by omega
   have HJa : Hid (J (pcsO b) D wr) := Lib.hid (by
    have h := HJi.out
    rwa [List.take_of_length_le (by rw [Hn.out]; exact Nat.le_refl _)] at h)
   have HJ1 : Hid (J (pcsO b ++ (b.us.take 0).flatMap fun x => x.u.parts.map (·.pc)) D wr) := Lib.hid (by
    rw [List.take_zero, List.flatMap_nil, List.append_nil]
    exact HJa.out)
   obtain ⟨wo, rfl⟩ : ∃ wo : World, wo = wr := ⟨_, rfl⟩; have c4 := HB.out.1.cell (i := 4) rfl; obtain ⟨pu, hpu⟩ : ∃ pu, b.pu = pu := ⟨_, rfl⟩; rw [Hnu.out, hpu] at c4; have Hpu := Lib.hid hpu; clear hpu; clear HJi HJa
   gi_wp2_with fail
   clear c4
   gi_loopw [34] (fun a wr => ∃ (i : Nat) (D : List Nat), a = .int .i64 (i : Int) ∧ i ≤ nu ∧ Hid (J (pcsO b ++ (b.us.take i).flatMap (fun x => x.u.parts.map (·.pc))) D wr) ∧ Hid (PcsAt wr c1 b) ∧ Hid (∀ d ∈ D, d ∉ pcsCap c1 b ∧ d < wr.heap.size) ∧ Hid (W.heap.size ≤ wr.heap.size)) (fun a _ => nu - (intOf a).toNat)
   case atStart =>
    exact ⟨0, D, rfl, Nat.zero_le _, HJ1, HB, HDi, HS⟩
   case round =>
    clear HJ1 HB HDi HS; obtain ⟨i, D, rfl, hi, HJi, HB, HDi, HS⟩ := hrel
    by_cases hlt : i < nu
    ·obtain ⟨x, hxx⟩ : ∃ x, b.us[i]? = some x := ⟨_, List.getElem?_eq_getElem (by rw [Hnu.out]; exact hlt)⟩; obtain ⟨g, hg, -, -⟩ := HB.out.2.su.at (by rw [Hnu.out]; omega); have hrd := HB.out.2.su.view.2.2.1; rw [hg] at hrd; obtain rfl : pu = some _ := Hpu.out.symm.trans hg; have d0 := rd_elem luCells_len hrd hxx (r := 0) rfl; have d1 := rd_elem luCells_len hrd hxx (r := 1) rfl; have d2 := rd_elem luCells_len hrd hxx (r := 2) rfl; have d3 := rd_elem luCells_len hrd hxx (r := 3) rfl; have d4 := rd_elem luCells_len hrd hxx (r := 4) rfl; rw [Addr.add_lit, Nat.zero_add] at d0 d1 d2 d3 d4; rw [Nat.add_zero] at d0
     obtain ⟨m, hm⟩ : ∃ m, x.u.parts.length = m := ⟨_, rfl⟩; have hm5 : m ≤ 100000 := (by rw [← hm]; exact H4.out x (List.mem_of_getElem? hxx)); obtain ⟨wt, hwt⟩ : ∃ wt, wt = wr.alloc (.cells #[.int .i64 x.u.id.node, .int .i64 x.u.id.boot, .int .i64 x.u.id.seq, .string (str x.u.key), .slice x.q x.u.parts.length x.c] 68) := ⟨_, rfl⟩; have ot : Only [] wr wt := (by rw [hwt]; exact Only.alloc _ _); have rt : Row wt wr.heap.size 68 [.int .i64 x.u.id.node, .int .i64 x.u.id.boot, .int .i64 x.u.id.seq, .string (str x.u.key), .slice x.q x.u.parts.length x.c] := (by rw [hwt]; exact Row.newOf _ _ _ _ rfl); have zp := rt.cell (i := 4) rfl
     have HBt := Lib.hid (HB.out.only ot (by simp)); have HJt : Hid (J (pcsO b ++ (b.us.take i).flatMap (fun x => x.u.parts.map (·.pc)) ++ []) D wt) := Lib.hid (by rw [List.append_nil]; exact HJ.out _ _ _ _ _ HJi.out ot (by simp)); have Hst : Hid (W.heap.size ≤ wt.heap.size) := Lib.hid (Nat.le_trans HS.out ot.size); have HDt : Hid (∀ d ∈ D, d ∉ pcsCap c1 b ∧ d < wt.heap.size) := Lib.hid (fun d hd => ⟨(HDi.out d hd).1, Nat.lt_of_lt_of_le (HDi.out d hd).2 ot.size⟩); have Hxx := Lib.hid hxx; have Hm := Lib.hid hm; have Hxm := Lib.hid (List.mem_of_getElem? hxx); obtain ⟨q, hq⟩ : ∃ q, x.q = q := ⟨_, rfl⟩
     rw [hm, hq] at hwt d4 zp; have Hwt := Lib.hid hwt; have Hq := Lib.hid hq; clear hq hrd hxx hm ot rt hwt hg HB HJi HDi HS
     gi_wp2_with (fail)
     rw [← Hwt.out]
     gi_wp2_with (fail)
     clear d0 d1 d2 d3 d4 Hwt zp; obtain ⟨wo2, hwo2⟩ : ∃ wo2 : World, wo2 = wr := ⟨_, rfl⟩
     gi_loopw [41] (fun a wl => ∃ (j : Nat) (D : List Nat), a = .int .i64 (j : Int) ∧ j ≤ m ∧ Hid (J (pcsO b ++ (b.us.take i).flatMap (fun x => x.u.parts.map (·.pc)) ++ (x.u.parts.take j).map (·.pc)) D wl) ∧ Hid (PcsAt wl c1 b) ∧ Hid (∀ d ∈ D, d ∉ pcsCap c1 b ∧ d < wl.heap.size) ∧ Hid (W.heap.size ≤ wl.heap.size)) (fun a _ => m - (intOf a).toNat)
     case atStart => exact ⟨0, D, rfl, Nat.zero_le _, HJt, HBt, HDt, Hst⟩
     case round =>
      clear HJt HBt HDt Hst; obtain ⟨j, D, rfl, hj, HJj, HB, HDj, HS⟩ := hrel
      by_cases hlj : j < m
      ·obtain ⟨p, hpp⟩ : ∃ p, x.u.parts[j]? = some p := ⟨_, List.getElem?_eq_getElem (by rw [Hm.out]; exact hlj)⟩; have hox := HB.out.2.up x Hxm.out; obtain ⟨gq, hgq, -, -⟩ := OwnK.at hox (by rw [Hm.out]; omega); have hrd := (OwnK.view hox).2.2.1; rw [hgq] at hrd; obtain rfl : q = some _ := Hq.out.symm.trans hgq; clear hgq; have p0 := rd_elem ptCells_len hrd hpp (r := 0) rfl; have p1 := rd_elem ptCells_len hrd hpp (r := 1) rfl; have p2 := rd_elem ptCells_len hrd hpp (r := 2) rfl; have p3 := rd_elem ptCells_len hrd hpp (r := 3) rfl; have p4 := rd_elem ptCells_len hrd hpp (r := 4) rfl; have p5 := rd_elem ptCells_len hrd hpp (r := 5) rfl
       rw [Addr.add_lit, Nat.zero_add] at p0 p1 p2 p3 p4 p5; rw [Nat.add_zero] at p0; obtain ⟨wx, hwx⟩ : ∃ wx, wx = wr.alloc (.cells #[.int .i64 p.num, .int .i64 p.pc.blob.node, .int .i64 p.pc.blob.boot, .int .i64 p.pc.blob.seq, .int .i64 p.pc.size, .string (str p.pc.etag)] 70) := ⟨_, rfl⟩; have ox : Only [] wr wx := (by rw [hwx]; exact Only.alloc _ _); have HBx := Lib.hid (HB.out.only ox (by simp)); have HJx := HJ.out _ _ _ _ _ HJj.out ox (by simp); have Hsx : Hid (W.heap.size ≤ wx.heap.size) := Lib.hid (Nat.le_trans HS.out ox.size); obtain ⟨zs, hzs⟩ := flat_split (g := (fun x : LUpl => x.u.parts.map (·.pc))) Hxx.out (j := j) (p := p.pc) (by rw [List.getElem?_map, hpp]; rfl)
       obtain ⟨zt, hzt⟩ : ∃ zt, pcsO b ++ pcsU b = (pcsO b ++ (b.us.take i).flatMap (fun x => x.u.parts.map (·.pc)) ++ (x.u.parts.take j).map (·.pc)) ++ p.pc :: zt := ⟨zs, by show pcsO b ++ b.us.flatMap (fun x => x.u.parts.map (·.pc)) = _; rw [hzs]; simp [List.map_take]⟩; obtain ⟨fn, tmps, assign, body, hy, hR⟩ := HY.out _ p.pc _ D wx _ [] HJx hzt ⟨rfl, rfl⟩ (by simp); have HR := Lib.hid hR; have Htk : Hid ((x.u.parts.take (j + 1)).map (·.pc) = (x.u.parts.take j).map (·.pc) ++ [p.pc]) := Lib.hid (by rw [take_snoc' hpp, List.map_append]; rfl); have Hwx := Lib.hid hwx; have HDx : Hid (∀ d ∈ D, d < wr.heap.size ∧ d ∉ pcsCap c1 b) := Lib.hid (fun d hd => ⟨(HDj.out d hd).2, (HDj.out d hd).1⟩)
       unfold pcV at hy; rw [hwx] at hy; clear hR hzs hzt hrd hpp hwx ox HJx HB HJj HDj hox
       gi_wp2_with fail
       rw [← Hwx.out]; refine HR.out.mono ?_; clear hy HR p0 p1 p2 p3 p4 p5; rintro e2 w3 ⟨D', o3, hD3, ⟨rfl, hj3⟩ | ⟨rfl, hj3⟩⟩
       ·have HB3 : Hid (PcsAt w3 c1 b) := Lib.hid (HBx.out.only o3 (fun z hz hm => by
         rw [List.append_nil] at hm
         exact (HDx.out z hm).2 hz))
        have HD3 : Hid (∀ d ∈ D', d ∉ pcsCap c1 b ∧ d < w3.heap.size) := Lib.hid (fun d hd => by
         obtain ⟨h5, h6⟩ := hD3 d hd; refine ⟨fun hm => ?_, h6⟩
         rcases h5 with h5 | h5 | h5
         ·exact (HDx.out d h5).2 hm
         ·cases h5
         ·have := HW.out d hm; have := Hsx.out; omega)
        have HJ3 : Hid (J (pcsO b ++ (b.us.take i).flatMap (fun x => x.u.parts.map (·.pc)) ++ (x.u.parts.take (j + 1)).map (·.pc)) D' w3) := Lib.hid (by rw [Htk.out, ← List.append_assoc]; exact hj3); have Hs3 : Hid (W.heap.size ≤ w3.heap.size) := Lib.hid (Nat.le_trans Hsx.out o3.size); clear o3 hD3 hj3
        gi_wp2_with fail
        refine ⟨⟨j + 1, D', by go_num, by omega, HJ3, HB3, HD3, Hs3⟩, ?_⟩; show m - ((j : Int) + 1).toNat < m - ((j : Int)).toNat; omega
       ·have Hj := Lib.hid hj3; clear hj3 o3 hD3
        gi_wp2_with fail
        (first | go_end0 | ((try simp only [Exit.inBlock, Exit.then]); refine bodyPost_ret (results_none rfl _ _ _) rfl ?_))
        exact ⟨⟨_, rfl⟩, .inr ⟨_, D', Hj.out⟩⟩
      ·obtain rfl : j = m := by omega
       have HJn : Hid (J (pcsO b ++ (b.us.take (i + 1)).flatMap (fun x => x.u.parts.map (·.pc))) D wr) := Lib.hid (by
        have h := HJj.out; rw [List.take_of_length_le (l := x.u.parts) (by rw [Hm.out]; exact Nat.le_refl _)] at h; rw [flat_succ Hxx.out, ← List.append_assoc]
        exact h)
       clear HJj
       gi_wp2_with fail
       refine ⟨⟨i + 1, D, by go_num, by omega, HJn, HB, HDj, HS⟩, ?_⟩; show nu - ((i : Int) + 1).toNat < nu - ((i : Int)).toNat; omega
    ·obtain rfl : i = nu := by omega
     have HJe : Hid (J (pcsO b ++ pcsU b) D wr) := Lib.hid (by
      have h := HJi.out
      rwa [List.take_of_length_le (by rw [Hnu.out]; exact Nat.le_refl _)] at h)
     clear HJi
     gi_wp2_with fail
     (first | go_end0 | ((try simp only [Exit.inBlock, Exit.then]); refine bodyPost_ret (results_none rfl _ _ _) rfl ?_))
     exact ⟨⟨_, rfl⟩, .inl ⟨D, HJe.out⟩⟩
end Go.Proofs.Ytfeglnpmpgipiaa
end
section
set_option linter.unusedVariables false
set_option maxRecDepth 100000
namespace Go.Proofs.Ytfeglnpmpgipiaa
open Go.RowKit
set_option maxHeartbeats 16000000 in
theorem ref11put_any (p : Option Addr) (n c : Nat) (os : List LObj) (o : LObj) (w0 : World) (hn : os.length = n) (hnb : n ≤ 1000) (hx : Rd w0 p (os.flatMap loCells)) :
  Calls Try.prog 38 #[.slice p n c, loV o] w0 fun e w' => ∃ q m k, e = .returned (.slice q m k) ∧ OutK loCells 65 5 w0 w' q m k (putLL os o) := by
 obtain ⟨w1, hw1⟩ : ∃ w1, w1 = w0.alloc (.cells #[.string (str o.o.key), .int .i64 o.o.size, .string (str o.o.etag), .int .i64 o.o.time, .slice o.q o.o.pcs.length o.c] 65) := ⟨_, rfl⟩; obtain ⟨w2, hw2⟩ : ∃ w2, w2 = w1.alloc (.cells #[] 65) := ⟨_, rfl⟩; have o1 : Only [] w0 w1 := (by rw [hw1]; exact Only.alloc _ _); have s1 : w1.heap.size = w0.heap.size + 1 := (by rw [hw1]; simp); have r1 : Row w1 w0.heap.size 65 [.string (str o.o.key), .int .i64 o.o.size, .string (str o.o.etag), .int .i64 o.o.time, .slice o.q o.o.pcs.length o.c] := (by rw [hw1]; exact Row.newOf _ _ _ _ rfl); have HI0 : Hid (OutK loCells 65 5 w1 w2 (some ⟨w0.heap.size + 1, 0, none⟩) 0 0 (putLF (os.take 0) o).1) := Lib.hid (by rw [← s1]; exact OutK.start (Only.refl _ _) hw2)
 rw [hw1] at hw2; have Hw := Lib.hid hw2; have Hn := Lib.hid hn; have Hx := Lib.hid hx; have HO := Lib.hid o1; have Hr1 := Lib.hid r1; have Hs1 := Lib.hid s1; unfold loV; clear hn hx o1 s1 r1 hw1 hw2
 go_enter Try.func38, Try.ntmps38
 go_wp2_with fail; rw [← Hw.out]; clear Hw
 go_loopw [5, 6, 12] (fun b g a wl => ∃ (i m : Nat) (q : Option Addr) (k : Nat), b = .slice q m k ∧ g = .bool (putLF (os.take i) o).2 ∧ a = .int .i64 (i : Int) ∧ i ≤ n ∧ Hid (OutK loCells 65 5 w1 wl q m k (putLF (os.take i) o).1)) (fun _ _ a _ => n - (intOf a).toNat)
 case atStart => exact ⟨0, 0, _, 0, rfl, rfl, rfl, Nat.zero_le _, HI0⟩
 case round =>
  clear HI0; obtain ⟨i, m, q, k, rfl, rfl, rfl, hi, HI⟩ := hrel
  by_cases hlt : i < n
  ·skip
   obtain ⟨x, hx⟩ : ∃ x, os[i]? = some x := ⟨_, List.getElem?_eq_getElem (by rw [Hn.out]; assumption)⟩; have hrd := Hx.out.only0 (HO.out.trans0 HI.out.2.2); have hne : os.flatMap loCells ≠ [] := fun e' => (by have := flat_get loCells 5 loCells_len os _ x 0 hx (by omega); rw [e'] at this; cases this); obtain ⟨bq, off, rfl, -⟩ := hrd.lt hne; have d0 := rd_elem loCells_len hrd hx (r := 0) rfl; have d1 := rd_elem loCells_len hrd hx (r := 1) rfl; have d2 := rd_elem loCells_len hrd hx (r := 2) rfl; have d3 := rd_elem loCells_len hrd hx (r := 3) rfl; have d4 := rd_elem loCells_len hrd hx (r := 4) rfl; rw [Addr.add_lit, ← Nat.add_assoc] at d0 d1 d2 d3 d4
   rw [Nat.add_zero] at d0; clear hrd hne; obtain ⟨wt, hwt⟩ : ∃ wt, wt = wr.alloc (.cells #[.string (str x.o.key), .int .i64 x.o.size, .string (str x.o.etag), .int .i64 x.o.time, .slice x.q x.o.pcs.length x.c] 65) := ⟨_, rfl⟩; have ot : Only [] wr wt := (by rw [hwt]; exact Only.alloc _ _); have rt : Row wt wr.heap.size 65 [.string (str x.o.key), .int .i64 x.o.size, .string (str x.o.etag), .int .i64 x.o.time, .slice x.q x.o.pcs.length x.c] := (by rw [hwt]; exact Row.newOf _ _ _ _ rfl); have rO := (Hr1.out.only0 HI.out.2.2).only0 ot; have hsy : wt.heap.size = wr.heap.size + 1 := (by rw [hwt]; simp); have hml := putLF_len os o i
   obtain ⟨S, hS⟩ : ∃ S, putLF (os.take i) o = S := ⟨_, rfl⟩; obtain ⟨acc, bo⟩ := S; have hst := putLF_succ (o := o) hx; rw [hS] at hst hml HI; rw [hS]; dsimp only at hml HI ⊢; have hm2 : m ≤ 2 * i := (by rw [← HI.out.2.1]; exact hml); have hIt := HI.out.only0 ot; have HE2 : Hid ((putLF (os.take (i + 1)) o).2 = (bo || !decide (lt x.o.key o.o.key))) := Lib.hid (by rw [hst]; rfl); have hcl := str_ltb x.o.key o.o.key; have hcc := str_eqb x.o.key o.o.key; have hst1 : (putLF (os.take (i + 1)) o).1 = (acc ++ (if bo = false ∧ ¬ lt x.o.key o.o.key then [o] else [])) ++ (if x.o.key = o.o.key then [] else [x]) := by rw [hst]; rfl
   have hbx : wr.heap.size ∉ blk q := fun hc => (by have := (HI.out.blk _ hc).2; omega); have a0 := rO.cell (i := 0) rfl; have a1 := rO.cell (i := 1) rfl; have a2 := rO.cell (i := 2) rfl; have a3 := rO.cell (i := 3) rfl; have a4 := rO.cell (i := 4) rfl; have e0 := rt.cell (i := 0) rfl; have e1 := rt.cell (i := 1) rfl; have e2 := rt.cell (i := 2) rfl; have e3 := rt.cell (i := 3) rfl; have e4 := rt.cell (i := 4) rfl
   cases bo with
   | true =>
    rw [if_neg (by simp)] at hst1; rw [Bool.true_or] at HE2
    by_cases hke : x.o.key = o.o.key
    ·rw [decide_eq_true hke] at hcc; rw [if_pos hke, List.append_nil, List.append_nil] at hst1; have HE : Hid (OutK loCells 65 5 w1 wt q m k (putLF (os.take (i + 1)) o).1) := Lib.hid (by rw [hst1]; exact hIt); have Hwt := Lib.hid hwt; rw [hwt] at a0 a1 a2 a3 a4 e0 e1 e2 e3 e4; clear hst hst1 hx hIt HI hml hS rO rt ot hwt hke; go_wp2_with fail; rw [← Hwt.out]; refine ⟨⟨i + 1, m, q, k, rfl, by rw [HE2.out], by go_num, by omega, HE⟩, ?_⟩; show n - ((i : Int) + 1).toNat < n - ((i : Int)).toNat; omega
    ·rw [decide_eq_false hke] at hcc; rw [if_neg hke, List.append_nil] at hst1; obtain ⟨q2, k2, w6, Hap2, hO2, -, -⟩ := hIt.push (P := Try.prog) (t := 60) Try.underlying60 Try.infoLO rfl (by omega) (by omega) loCells_len loCells_one x (by omega); have HE : Hid (OutK loCells 65 5 w1 w6 q2 (m + 1) k2 (putLF (os.take (i + 1)) o).1) := Lib.hid (by rw [hst1]; exact hO2); unfold loCells at Hap2; rw [hsy, hwt] at Hap2; rw [hwt] at a0 a1 a2 a3 a4 e0 e1 e2 e3 e4; clear hst hst1 hx hIt HI hml hS rO rt ot hwt hke hO2 hsy
     go_wp2_with (first | (at_builtin; refine wpl_append (s := .tmp 34) (x := .tmp 36) rfl rfl rfl rfl Hap2.out ?_))
     refine ⟨⟨i + 1, m + 1, q2, k2, rfl, by rw [HE2.out], by go_num, by omega, HE⟩, ?_⟩; show n - ((i : Int) + 1).toNat < n - ((i : Int)).toNat; omega
   | false =>
    rw [Bool.false_or] at HE2
    by_cases hll : lt x.o.key o.o.key
    ·rw [decide_eq_true hll] at hcl HE2; rw [if_neg (by simp [hll])] at hst1; clear hll; rw [Bool.not_true] at HE2
     by_cases hke : x.o.key = o.o.key
     ·rw [decide_eq_true hke] at hcc; rw [if_pos hke, List.append_nil, List.append_nil] at hst1; have HE : Hid (OutK loCells 65 5 w1 wt q m k (putLF (os.take (i + 1)) o).1) := Lib.hid (by rw [hst1]; exact hIt); have Hwt := Lib.hid hwt; rw [hwt] at a0 a1 a2 a3 a4 e0 e1 e2 e3 e4; clear hst hst1 hx hIt HI hml hS rO rt ot hwt hke; go_wp2_with fail; rw [← Hwt.out]; refine ⟨⟨i + 1, m, q, k, rfl, by rw [HE2.out], by go_num, by omega, HE⟩, ?_⟩; show n - ((i : Int) + 1).toNat < n - ((i : Int)).toNat; omega
     ·rw [decide_eq_false hke] at hcc; rw [if_neg hke, List.append_nil] at hst1; obtain ⟨q2, k2, w6, Hap2, hO2, -, -⟩ := hIt.push (P := Try.prog) (t := 60) Try.underlying60 Try.infoLO rfl (by omega) (by omega) loCells_len loCells_one x (by omega); have HE : Hid (OutK loCells 65 5 w1 w6 q2 (m + 1) k2 (putLF (os.take (i + 1)) o).1) := Lib.hid (by rw [hst1]; exact hO2); unfold loCells at Hap2; rw [hsy, hwt] at Hap2; rw [hwt] at a0 a1 a2 a3 a4 e0 e1 e2 e3 e4; clear hst hst1 hx hIt HI hml hS rO rt ot hwt hke hO2 hsy
      go_wp2_with (first | (at_builtin; refine wpl_append (s := .tmp 34) (x := .tmp 36) rfl rfl rfl rfl Hap2.out ?_))
      refine ⟨⟨i + 1, m + 1, q2, k2, rfl, by rw [HE2.out], by go_num, by omega, HE⟩, ?_⟩; show n - ((i : Int) + 1).toNat < n - ((i : Int)).toNat; omega
    ·rw [decide_eq_false hll] at hcl HE2; rw [if_pos ⟨rfl, hll⟩] at hst1; clear hll; rw [Bool.not_false] at HE2; obtain ⟨q1, k1, w5, Hap1, hO1, oq, hq1⟩ := hIt.push (P := Try.prog) (t := 60) Try.underlying60 Try.infoLO rfl (by omega) (by omega) loCells_len loCells_one o (by omega); have rO5 : Row w5 w0.heap.size 65 [.string (str o.o.key), .int .i64 o.o.size, .string (str o.o.etag), .int .i64 o.o.time, .slice o.q o.o.pcs.length o.c] := Hr1.out.only0 hO1.2.2; have rx5 := rt.only oq hbx; have g0 := rO5.cell (i := 0) rfl; have f0 := rx5.cell (i := 0) rfl; have f1 := rx5.cell (i := 1) rfl; have f2 := rx5.cell (i := 2) rfl
     have f3 := rx5.cell (i := 3) rfl; have f4 := rx5.cell (i := 4) rfl; unfold loCells at Hap1; rw [hsy, hwt] at Hap1; rw [hwt] at a0 a1 a2 a3 a4 e0 e1 e2 e3 e4
     by_cases hke : x.o.key = o.o.key
     ·rw [decide_eq_true hke] at hcc; rw [if_pos hke, List.append_nil] at hst1; have HE : Hid (OutK loCells 65 5 w1 w5 q1 (m + 1) k1 (putLF (os.take (i + 1)) o).1) := Lib.hid (by rw [hst1]; exact hO1); clear hst hst1 hx hIt HI hml hS rO rt ot hwt hke hO1 oq hq1 rO5 rx5 hsy hbx
      go_wp2_with (first | (at_builtin; refine wpl_append (s := .tmp 25) (x := .tmp 27) rfl rfl rfl rfl Hap1.out ?_))
      refine ⟨⟨i + 1, m + 1, q1, k1, rfl, by rw [HE2.out], by go_num, by omega, HE⟩, ?_⟩; show n - ((i : Int) + 1).toNat < n - ((i : Int)).toNat; omega
     ·rw [decide_eq_false hke] at hcc; rw [if_neg hke] at hst1; obtain ⟨q2, k2, w6, Hap2, hO2, -, -⟩ := hO1.push (P := Try.prog) (t := 60) Try.underlying60 Try.infoLO rfl (by omega) (by omega) loCells_len loCells_one x (by omega); have HE : Hid (OutK loCells 65 5 w1 w6 q2 (m + 1 + 1) k2 (putLF (os.take (i + 1)) o).1) := Lib.hid (by rw [hst1]; exact hO2); unfold loCells at Hap2; clear hst hst1 hx hIt HI hml hS rO rt ot hwt hke hO1 oq hq1 rO5 rx5 hsy hbx hO2
      go_wp2_with (first | (at_builtin; refine wpl_append (s := .tmp 25) (x := .tmp 27) rfl rfl rfl rfl Hap1.out ?_) | (at_builtin; refine wpl_append (s := .tmp 34) (x := .tmp 36) rfl rfl rfl rfl Hap2.out ?_))
      refine ⟨⟨i + 1, m + 1 + 1, q2, k2, rfl, by rw [HE2.out], by go_num, by omega, HE⟩, ?_⟩; show n - ((i : Int) + 1).toNat < n - ((i : Int)).toNat; omega
  ·obtain rfl : i = n := (by omega); have rO := Hr1.out.only0 HI.out.2.2; have hml := putLF_len os o i; rw [List.take_of_length_le (by rw [Hn.out]; exact Nat.le_refl _)] at HI hml ⊢; have hm2 : m ≤ 2 * i := (by rw [← HI.out.2.1]; exact hml); have hpl : putLL os o = if (putLF os o).2 = true then (putLF os o).1 else (putLF os o).1 ++ [o] := rfl; obtain ⟨S, hS⟩ : ∃ S, putLF os o = S := ⟨_, rfl⟩; obtain ⟨acc, bo⟩ := S; rw [hS] at hpl HI ⊢; dsimp only at hpl HI ⊢
   cases bo with
   | true =>
    rw [if_pos rfl] at hpl; have HE : Hid (OutK loCells 65 5 w1 wr q m k (putLL os o)) := Lib.hid (by rw [hpl]; exact HI.out); clear HI hpl hS rO hml; go_wp2_with fail
    go_ret
    exact ⟨_, _, _, rfl, HE.out.base HO.out⟩
   | false =>
    rw [if_neg (by simp)] at hpl; obtain ⟨q2, k2, w6, Hap2, hO2, -, -⟩ := HI.out.push (P := Try.prog) (t := 60) Try.underlying60 Try.infoLO rfl (by omega) (by omega) loCells_len loCells_one o (by omega); have HE : Hid (OutK loCells 65 5 w1 w6 q2 (m + 1) k2 (putLL os o)) := Lib.hid (by rw [hpl]; exact hO2); have a0 := rO.cell (i := 0) rfl; have a1 := rO.cell (i := 1) rfl; have a2 := rO.cell (i := 2) rfl; have a3 := rO.cell (i := 3) rfl; have a4 := rO.cell (i := 4) rfl; unfold loCells at Hap2; clear HI hpl hS rO hO2 hml
    go_wp2_with (first | (at_builtin; refine wpl_append (s := .tmp 41) (x := .tmp 43) rfl rfl rfl rfl Hap2.out ?_))
    go_ret
    exact ⟨_, _, _, rfl, HE.out.base HO.out⟩
theorem any_take {os : List LObj} {k : Bs} {i : Nat} {x : LObj} (h : os[i]? = some x) : (∀ y ∈ os.take (i + 1), y.o.key ≠ k) ↔ (∀ y ∈ os.take i, y.o.key ≠ k) ∧ x.o.key ≠ k := by
 rw [take_snoc' h]; simp only [List.mem_append, List.mem_singleton]; exact ⟨fun h2 => ⟨fun y hy => h2 y (.inl hy), h2 x (.inr rfl)⟩, fun h2 y hy => hy.elim (h2.1 y) (fun e => e ▸ h2.2)⟩
set_option maxHeartbeats 16000000 in
theorem ref11has_any (p : Option Addr) (n c : Nat) (os : List LObj) (ky : Bs) (w0 : World) (hn : os.length = n) (hnb : n ≤ 1000) (hx : Rd w0 p (os.flatMap loCells)) :
  Calls Try.prog 37 #[.slice p n c, .string (str ky)] w0 fun e w' => e = .returned (.bool (hasR (os.map LObj.o) ky)) ∧ Only [] w0 w' := by
 have hr : ∀ b : Bool, (b = true ↔ ∃ y ∈ os, y.o.key = ky) → hasR (os.map LObj.o) ky = b := fun b hb => by
  unfold hasR; rw [Bool.eq_iff_iff, hb, List.any_map, List.any_eq_true]
  simp
 have Hr := Lib.hid hr; have Hn := Lib.hid hn; have Hx := Lib.hid hx; clear hn hx hr
 go_enter Try.func37, Try.ntmps37
 go_wp2_with fail
 go_loopw [9] (fun a wl => ∃ (i : Nat), a = .int .i64 (i : Int) ∧ i ≤ n ∧ Hid (∀ y ∈ os.take i, y.o.key ≠ ky) ∧ Hid (Only [] w0 wl)) (fun a _ => n - (intOf a).toNat)
 case atStart => exact ⟨0, rfl, Nat.zero_le _, Lib.hid (by simp), Lib.hid (Only.refl _ _)⟩
 case round =>
  obtain ⟨i, rfl, hi, Hno, HOl⟩ := hrel
  by_cases hlt : i < n
  ·skip
   obtain ⟨x, hx⟩ : ∃ x, os[i]? = some x := ⟨_, List.getElem?_eq_getElem (by rw [Hn.out]; assumption)⟩; have hrd := Hx.out.only0 HOl.out; have hne : os.flatMap loCells ≠ [] := fun e' => (by have := flat_get loCells 5 loCells_len os _ x 0 hx (by omega); rw [e'] at this; cases this); obtain ⟨bq, off, rfl, -⟩ := hrd.lt hne; have d0 := rd_elem loCells_len hrd hx (r := 0) rfl; have d1 := rd_elem loCells_len hrd hx (r := 1) rfl; have d2 := rd_elem loCells_len hrd hx (r := 2) rfl; have d3 := rd_elem loCells_len hrd hx (r := 3) rfl; have d4 := rd_elem loCells_len hrd hx (r := 4) rfl; rw [Addr.add_lit, ← Nat.add_assoc] at d0 d1 d2 d3 d4
   rw [Nat.add_zero] at d0; clear hrd hne; obtain ⟨wt, hwt⟩ : ∃ wt, wt = wr.alloc (.cells #[.string (str x.o.key), .int .i64 x.o.size, .string (str x.o.etag), .int .i64 x.o.time, .slice x.q x.o.pcs.length x.c] 65) := ⟨_, rfl⟩; have ot : Only [] wr wt := (by rw [hwt]; exact Only.alloc _ _); have rt : Row wt wr.heap.size 65 [.string (str x.o.key), .int .i64 x.o.size, .string (str x.o.etag), .int .i64 x.o.time, .slice x.q x.o.pcs.length x.c] := (by rw [hwt]; exact Row.newOf _ _ _ _ rfl); have e0 := rt.cell (i := 0) rfl; have e1 := rt.cell (i := 1) rfl; have e2 := rt.cell (i := 2) rfl; have e3 := rt.cell (i := 3) rfl
   have e4 := rt.cell (i := 4) rfl; have hcc := str_eqb x.o.key ky; have HOt := Lib.hid (HOl.out.trans0 ot); have Hwt := Lib.hid hwt; rw [hwt] at e0 e1 e2 e3 e4
   by_cases hke : x.o.key = ky
   ·rw [decide_eq_true hke] at hcc; have Hres := Lib.hid (Hr.out true (by simp only [true_iff]; exact ⟨x, List.mem_of_getElem? hx, hke⟩)); clear hx ot rt hwt hke; go_wp2_with fail; rw [← Hwt.out]
    go_ret
    exact ⟨by rw [Hres.out]; rfl, HOt.out⟩
   ·rw [decide_eq_false hke] at hcc; have Hn2 := Lib.hid ((any_take (k := ky) hx).2 ⟨Hno.out, hke⟩); clear hx ot rt hwt hke; go_wp2_with fail; rw [← Hwt.out]; refine ⟨⟨i + 1, by go_num, by omega, Hn2, HOt⟩, ?_⟩; show n - ((i : Int) + 1).toNat < n - ((i : Int)).toNat; omega
  ·obtain rfl : i = n := by omega
   have Hres := Lib.hid (Hr.out false (by
    have h := Hno.out; rw [List.take_of_length_le (by rw [Hn.out]; exact Nat.le_refl _)] at h; simp only [Bool.false_eq_true, false_iff, not_exists, not_and]
    exact fun y hy => h y hy))
   go_wp2_with fail
   go_ret
   exact ⟨by rw [Hres.out]; rfl, HOl.out⟩
end Go.Proofs.Ytfeglnpmpgipiaa
end
section
set_option linter.unusedVariables false
set_option maxRecDepth 100000
namespace Go.Proofs.Ytfeglnpmpgipiaa
open Go.RowKit
set_option maxHeartbeats 4000000 in
theorem less_any (x y : Cid) (w0 : World) : Calls Try.prog 16 #[idV x, idV y] w0 fun e w' => e = .returned (.bool (decide (ltI x y))) ∧ Only [] w0 w' := by
 obtain ⟨w1, hw1⟩ : ∃ w1, w1 = w0.alloc (.cells #[.int .i64 x.node, .int .i64 x.boot, .int .i64 x.seq] 31) := ⟨_, rfl⟩; obtain ⟨w2, hw2⟩ : ∃ w2, w2 = w1.alloc (.cells #[.int .i64 y.node, .int .i64 y.boot, .int .i64 y.seq] 31) := ⟨_, rfl⟩; have o1 : Only [] w0 w1 := (by rw [hw1]; exact Only.alloc _ _); have o2 : Only [] w1 w2 := (by rw [hw2]; exact Only.alloc _ _); have s1 : w1.heap.size = w0.heap.size + 1 := (by rw [hw1]; simp); have r1 : Row w2 w0.heap.size 31 [.int .i64 x.node, .int .i64 x.boot, .int .i64 x.seq] := (show Row w1 w0.heap.size 31 [.int .i64 x.node, .int .i64 x.boot, .int .i64 x.seq] by rw [hw1]; exact Row.newOf _ _ _ _ rfl).only0 o2
 have r2 : Row w2 (w0.heap.size + 1) 31 [.int .i64 y.node, .int .i64 y.boot, .int .i64 y.seq] := (by rw [← s1, hw2]; exact Row.newOf _ _ _ _ rfl); have x0 := r1.cell (i := 0) rfl; have x1 := r1.cell (i := 1) rfl; have x2 := r1.cell (i := 2) rfl; have y0 := r2.cell (i := 0) rfl; have y1 := r2.cell (i := 1) rfl; have y2 := r2.cell (i := 2) rfl; rw [hw1] at hw2; have Hw := Lib.hid hw2; have HO := Lib.hid (o1.trans0 o2); rw [hw2] at x0 x1 x2 y0 y1 y2; obtain ⟨r, hr⟩ : ∃ r, decide (ltI x y) = r := ⟨_, rfl⟩; have Hr := Lib.hid hr; rw [hr]; unfold idV; clear o1 o2 s1 r1 r2 hw1 hw2 hr
 go_enter Try.func16, Try.ntmps16
 by_cases h1 : x.node = y.node
 ·by_cases h2 : x.boot = y.boot
  ·skip
   go_wp2_with fail
   go_ret
   exact ⟨by rw [← Hr.out]; unfold ltI; simp [h1, h2], (Only.alloc _ _).trans0 (Only.alloc _ _)⟩
  ·skip
   go_wp2_with fail
   go_ret
   exact ⟨by rw [← Hr.out]; unfold ltI; simp [h1, h2], (Only.alloc _ _).trans0 (Only.alloc _ _)⟩
 ·skip
  go_wp2_with fail
  go_ret
  exact ⟨by rw [← Hr.out]; unfold ltI; simp [h1], (Only.alloc _ _).trans0 (Only.alloc _ _)⟩
set_option maxHeartbeats 8000000 in
theorem in22_any (p : Option Addr) (n c : Nat) (ids : List Cid) (x : Cid) (w0 : World) (hn : ids.length = n) (hnb : n ≤ 1000000) (hx : Rd w0 p (ids.flatMap idCells)) :
  Calls Try.prog 12 #[.slice p n c, idV x] w0 fun e w' => e = .returned (.bool (decide (x ∈ ids))) ∧ Only [] w0 w' := by
 obtain ⟨w1, hw1⟩ : ∃ w1, w1 = w0.alloc (.cells #[.int .i64 x.node, .int .i64 x.boot, .int .i64 x.seq] 31) := ⟨_, rfl⟩; have o1 : Only [] w0 w1 := (by rw [hw1]; exact Only.alloc _ _); have r1 : Row w1 w0.heap.size 31 [.int .i64 x.node, .int .i64 x.boot, .int .i64 x.seq] := (by rw [hw1]; exact Row.newOf _ _ _ _ rfl); have Hw := Lib.hid hw1; have HO := Lib.hid o1; have HR := Lib.hid r1; have Hn := Lib.hid hn; have Hx := Lib.hid (hx.only0 o1); unfold idV; clear o1 r1 hw1 hn hx
 go_enter Try.func12, Try.ntmps12
 go_wp2_with fail; rw [← Hw.out]; clear Hw
 go_loopw [9] (fun a wr => ∃ (i : Nat), a = .int .i64 (i : Int) ∧ i ≤ n ∧ Hid (x ∉ ids.take i) ∧ Hid (Only [] w1 wr)) (fun a _ => n - (intOf a).toNat)
 case atStart => exact ⟨0, rfl, Nat.zero_le _, Lib.hid (by simp), Lib.hid (Only.refl _ _)⟩
 case round =>
  obtain ⟨i, rfl, hi, Hni, HOl⟩ := hrel
  by_cases hlt : i < n
  ·obtain ⟨y, hyy⟩ : ∃ y, ids[i]? = some y := ⟨_, List.getElem?_eq_getElem (by rw [Hn.out]; exact hlt)⟩; have hrd := Hx.out.only0 HOl.out; have hne : ids.flatMap idCells ≠ [] := fun e' => (by have := flat_get idCells 3 idCells_len ids _ y 0 hyy (by omega); rw [e'] at this; cases this); obtain ⟨b, off, rfl, -⟩ := hrd.lt hne; have x0 := rd_elem idCells_len hrd hyy (r := 0) rfl; have x1 := rd_elem idCells_len hrd hyy (r := 1) rfl; have x2 := rd_elem idCells_len hrd hyy (r := 2) rfl; rw [Addr.add_lit, ← Nat.add_assoc] at x0 x1 x2; rw [Nat.add_zero] at x0; obtain ⟨wt, hwt⟩ : ∃ wt, wt = wr.alloc (.cells #[.int .i64 y.node, .int .i64 y.boot, .int .i64 y.seq] 31) := ⟨_, rfl⟩
   have ot : Only [] wr wt := (by rw [hwt]; exact Only.alloc _ _); have rt : Row wt wr.heap.size 31 [.int .i64 y.node, .int .i64 y.boot, .int .i64 y.seq] := (by rw [hwt]; exact Row.newOf _ _ _ _ rfl); have y0 := rt.cell (i := 0) rfl; have y1 := rt.cell (i := 1) rfl; have y2 := rt.cell (i := 2) rfl; have rx := (HR.out.only0 HOl.out).only0 ot; have z0 := rx.cell (i := 0) rfl; have z1 := rx.cell (i := 1) rfl; have z2 := rx.cell (i := 2) rfl; have heq : ∀ w, (Op.equalIn 10000 31 (.agg #[.int .i64 y.node, .int .i64 y.boot, .int .i64 y.seq]) (.agg #[.int .i64 x.node, .int .i64 x.boot, .int .i64 x.seq])).run Try.prog w = .ok (decide (y = x)) w := fun w => eqId y x w
   have Hyy := Lib.hid hyy; have Hwt := Lib.hid hwt; have HOt := Lib.hid (HOl.out.trans0 ot); rw [hwt] at y0 y1 y2 z0 z1 z2; clear hrd hne hyy ot rt rx hwt
   by_cases hxy : y = x
   ·simp only [decide_eq_true hxy] at heq; have hin : Hid (decide (x ∈ ids) = true) := Lib.hid (decide_eq_true (hxy ▸ List.mem_of_getElem? Hyy.out)); clear hxy; go_wp2_with fail; rw [← Hwt.out]
    go_ret
    exact ⟨by rw [hin.out]; rfl, HO.out.trans0 HOt.out⟩
   ·simp only [decide_eq_false hxy] at heq
    have Hn1 : Hid (x ∉ ids.take (i + 1)) := Lib.hid (by
     rw [List.take_add_one, Hyy.out]; simp only [Option.toList_some, List.mem_append, List.mem_singleton, not_or]
     exact ⟨Hni.out, fun e => hxy e.symm⟩)
    clear hxy; go_wp2_with fail; rw [← Hwt.out]; refine ⟨⟨i + 1, by go_num, by omega, Hn1, HOt⟩, ?_⟩; show n - ((i : Int) + 1).toNat < n - ((i : Int)).toNat; omega
  ·obtain rfl : i = n := by omega
   have hin : Hid (decide (x ∈ ids) = false) := Lib.hid (decide_eq_false (by
    have h := Hni.out
    rwa [List.take_of_length_le (by rw [Hn.out]; exact Nat.le_refl _)] at h))
   go_wp2_with fail
   go_ret
   exact ⟨by rw [hin.out]; rfl, HO.out.trans0 HOl.out⟩
end Go.Proofs.Ytfeglnpmpgipiaa
end
section
set_option linter.unusedVariables false
set_option maxRecDepth 100000
namespace Go.Proofs.Ytfeglnpmpgipiaa
open Go.RowKit
set_option maxHeartbeats 16000000 in
theorem ref11without_any (p : Option Addr) (n c : Nat) (us : List LUpl) (id : Cid) (w0 : World) (hn : us.length = n) (hnb : n ≤ 1000) (hx : Rd w0 p (us.flatMap luCells)) :
  Calls Try.prog 41 #[.slice p n c, idV id] w0 fun e w' => ∃ q m k, e = .returned (.slice q m k) ∧ OutK luCells 68 5 w0 w' q m k (withoutL us id) := by
 obtain ⟨w1, hw1⟩ : ∃ w1, w1 = w0.alloc (.cells #[.int .i64 id.node, .int .i64 id.boot, .int .i64 id.seq] 31) := ⟨_, rfl⟩; obtain ⟨w2, hw2⟩ : ∃ w2, w2 = w1.alloc (.cells #[] 68) := ⟨_, rfl⟩; have o1 : Only [] w0 w1 := (by rw [hw1]; exact Only.alloc _ _); have s1 : w1.heap.size = w0.heap.size + 1 := (by rw [hw1]; simp); have r1 : Row w1 w0.heap.size 31 [.int .i64 id.node, .int .i64 id.boot, .int .i64 id.seq] := (by rw [hw1]; exact Row.newOf _ _ _ _ rfl); have HI0 : Hid (OutK luCells 68 5 w1 w2 (some ⟨w0.heap.size + 1, 0, none⟩) 0 0 (withoutL (us.take 0) id)) := Lib.hid (by rw [← s1]; exact OutK.start (Only.refl _ _) hw2)
 rw [hw1] at hw2; have Hw := Lib.hid hw2; have Hn := Lib.hid hn; have Hx := Lib.hid hx; have HO := Lib.hid o1; have Hr1 := Lib.hid r1; unfold idV; clear hn hx o1 s1 r1 hw1 hw2
 go_enter Try.func41, Try.ntmps41
 go_wp2_with fail; rw [← Hw.out]; clear Hw
 go_loopw [5, 11] (fun b a wl => ∃ (i m : Nat) (q : Option Addr) (k : Nat), b = .slice q m k ∧ a = .int .i64 (i : Int) ∧ i ≤ n ∧ Hid (OutK luCells 68 5 w1 wl q m k (withoutL (us.take i) id))) (fun _ a _ => n - (intOf a).toNat)
 case atStart => exact ⟨0, 0, _, 0, rfl, rfl, Nat.zero_le _, HI0⟩
 case round =>
  clear HI0; obtain ⟨i, m, q, k, rfl, rfl, hi, HI⟩ := hrel
  by_cases hlt : i < n
  ·skip
   obtain ⟨x, hx⟩ : ∃ x, us[i]? = some x := ⟨_, List.getElem?_eq_getElem (by rw [Hn.out]; assumption)⟩; have hrd := Hx.out.only0 (HO.out.trans0 HI.out.2.2); have hne : us.flatMap luCells ≠ [] := fun e' => (by have := flat_get luCells 5 luCells_len us _ x 0 hx (by omega); rw [e'] at this; cases this); obtain ⟨bq, off, rfl, -⟩ := hrd.lt hne; have d0 := rd_elem luCells_len hrd hx (r := 0) rfl; have d1 := rd_elem luCells_len hrd hx (r := 1) rfl; have d2 := rd_elem luCells_len hrd hx (r := 2) rfl; have d3 := rd_elem luCells_len hrd hx (r := 3) rfl; have d4 := rd_elem luCells_len hrd hx (r := 4) rfl; rw [Addr.add_lit, ← Nat.add_assoc] at d0 d1 d2 d3 d4
   rw [Nat.add_zero] at d0; clear hrd hne; obtain ⟨wt, hwt⟩ : ∃ wt, wt = wr.alloc (.cells #[.int .i64 x.u.id.node, .int .i64 x.u.id.boot, .int .i64 x.u.id.seq, .string (str x.u.key), .slice x.q x.u.parts.length x.c] 68) := ⟨_, rfl⟩; have ot : Only [] wr wt := (by rw [hwt]; exact Only.alloc _ _); have rt : Row wt wr.heap.size 68 [.int .i64 x.u.id.node, .int .i64 x.u.id.boot, .int .i64 x.u.id.seq, .string (str x.u.key), .slice x.q x.u.parts.length x.c] := (by rw [hwt]; exact Row.newOf _ _ _ _ rfl); have rO := (Hr1.out.only0 HI.out.2.2).only0 ot; have hsy : wt.heap.size = wr.heap.size + 1 := by rw [hwt]; simp
   have hml := filter_take_len us (fun u => decide (u.u.id ≠ id)) i; have hm2 : m ≤ i := (by rw [← HI.out.2.1]; exact hml); have hIt := HI.out.only0 ot; have hst : withoutL (us.take (i + 1)) id = withoutL (us.take i) id ++ (if decide (x.u.id ≠ id) = true then [x] else []) := filter_take hx; have heq : ∀ w, (Op.equalIn 10000 31 (.agg #[.int .i64 x.u.id.node, .int .i64 x.u.id.boot, .int .i64 x.u.id.seq]) (.agg #[.int .i64 id.node, .int .i64 id.boot, .int .i64 id.seq])).run Try.prog w = .ok (decide (x.u.id = id)) w := eqId x.u.id id; have a0 := rO.cell (i := 0) rfl; have a1 := rO.cell (i := 1) rfl; have a2 := rO.cell (i := 2) rfl
   have e0 := rt.cell (i := 0) rfl; have e1 := rt.cell (i := 1) rfl; have e2 := rt.cell (i := 2) rfl; have e3 := rt.cell (i := 3) rfl; have e4 := rt.cell (i := 4) rfl
   by_cases hke : x.u.id = id
   ·rw [if_neg (by simp [hke]), List.append_nil] at hst; simp only [decide_eq_true hke] at heq; have HE : Hid (OutK luCells 68 5 w1 wt q m k (withoutL (us.take (i + 1)) id)) := Lib.hid (by rw [hst]; exact hIt); have Hwt := Lib.hid hwt; rw [hwt] at a0 a1 a2 e0 e1 e2 e3 e4; clear hst hx hIt HI hml rO rt ot hwt hke hsy; go_wp2_with fail; rw [← Hwt.out]; refine ⟨⟨i + 1, m, q, k, rfl, by go_num, by omega, HE⟩, ?_⟩; show n - ((i : Int) + 1).toNat < n - ((i : Int)).toNat; omega
   ·rw [if_pos (by simp [hke])] at hst; simp only [decide_eq_false hke] at heq; obtain ⟨q2, k2, w6, Hap2, hO2, -, -⟩ := hIt.push (P := Try.prog) (t := 61) Try.underlying61 Try.infoLU rfl (by omega) (by omega) luCells_len luCells_one x (by omega); have HE : Hid (OutK luCells 68 5 w1 w6 q2 (m + 1) k2 (withoutL (us.take (i + 1)) id)) := Lib.hid (by rw [hst]; exact hO2); unfold luCells at Hap2; rw [hsy, hwt] at Hap2; rw [hwt] at a0 a1 a2 e0 e1 e2 e3 e4; clear hst hx hIt HI hml rO rt ot hwt hke hsy hO2
    go_wp2_with (first | (at_builtin; refine wpl_append (s := .tmp 19) (x := .tmp 21) rfl rfl rfl rfl Hap2.out ?_))
    refine ⟨⟨i + 1, m + 1, q2, k2, rfl, by go_num, by omega, HE⟩, ?_⟩; show n - ((i : Int) + 1).toNat < n - ((i : Int)).toNat; omega
  ·obtain rfl : i = n := (by omega); have HE := HI; rw [List.take_of_length_le (by rw [Hn.out]; exact Nat.le_refl _)] at HE; clear HI; go_wp2_with fail
   go_ret
   exact ⟨_, _, _, rfl, HE.out.base HO.out⟩
set_option maxHeartbeats 16000000 in
theorem ref11start_any (p : Option Addr) (n c : Nat) (us : List LUpl) (u : LUpl) (w0 : World) (hn : us.length = n) (hnb : n ≤ 1000) (hx : Rd w0 p (us.flatMap luCells)) :
  Calls Try.prog 39 #[.slice p n c, luV u] w0 fun e w' => ∃ q m k, e = .returned (.slice q m k) ∧ OutK luCells 68 5 w0 w' q m k (startLL us u) := by
 obtain ⟨w1, hw1⟩ : ∃ w1, w1 = w0.alloc (.cells #[.int .i64 u.u.id.node, .int .i64 u.u.id.boot, .int .i64 u.u.id.seq, .string (str u.u.key), .slice u.q u.u.parts.length u.c] 68) := ⟨_, rfl⟩; obtain ⟨w2, hw2⟩ : ∃ w2, w2 = w1.alloc (.cells #[] 68) := ⟨_, rfl⟩; have o1 : Only [] w0 w1 := (by rw [hw1]; exact Only.alloc _ _); have o2 : Only [] w1 w2 := (by rw [hw2]; exact Only.alloc _ _); have s1 : w1.heap.size = w0.heap.size + 1 := (by rw [hw1]; simp); have r1 : Row w1 w0.heap.size 68 [.int .i64 u.u.id.node, .int .i64 u.u.id.boot, .int .i64 u.u.id.seq, .string (str u.u.key), .slice u.q u.u.parts.length u.c] := by rw [hw1]; exact Row.newOf _ _ _ _ rfl
 have HI0 : Hid (OutK luCells 68 5 w1 w2 (some ⟨w0.heap.size + 1, 0, none⟩) 0 0 []) := Lib.hid (by rw [← s1]; exact OutK.start (Only.refl _ _) hw2); have hwo := ref11without_any p n c us u.u.id w2 hn hnb (hx.only0 (o1.trans0 o2)); have r2 := r1.only0 o2; have a0 := r2.cell (i := 0) rfl; have a1 := r2.cell (i := 1) rfl; have a2 := r2.cell (i := 2) rfl; have hln : (withoutL us u.u.id).length ≤ n := (by rw [← hn]; exact List.length_filter_le _ _); have hfin : ∀ vs, withoutL us u.u.id = vs → startLL us u = if (startLF vs u).2 = true then (startLF vs u).1 else (startLF vs u).1 ++ [u] := fun vs e => by rw [← e]; rfl
 obtain ⟨vs, hvs⟩ : ∃ vs, withoutL us u.u.id = vs := ⟨_, rfl⟩; replace hfin := hfin vs hvs; rw [hvs] at hwo hln; rw [hw1] at hw2; rw [hw2] at a0 a1 a2; have Hw := Lib.hid hw2; have HO := Lib.hid o1; have Hr1 := Lib.hid r1; have Hs1 := Lib.hid s1; have Hfin := Lib.hid hfin; have Ho12 := Lib.hid o2; unfold idV at hwo; unfold luV; clear hn hx o1 o2 s1 r1 r2 hw1 hw2 hvs hfin
 go_enter Try.func39, Try.ntmps39
 go_wp2_with fail; rw [← Hw.out]; (with_reducible refine hwo.mono ?_); clear hwo Hw a0 a1 a2; rintro e w3 ⟨pv, N, kv, rfl, hV⟩; have HV := Lib.hid (hV.base Ho12.out); have HN := Lib.hid hV.2.1; have hN : N ≤ 1000 := (by have := hV.2.1; omega); have HI3 : Hid (OutK luCells 68 5 w1 w3 (some ⟨w0.heap.size + 1, 0, none⟩) 0 0 (startLF (vs.take 0) u).1) := Lib.hid (HI0.out.only0 hV.2.2)
 have Hap : Hid (∀ z ∈ blk (some ⟨w0.heap.size + 1, 0, none⟩ : Option Addr), z ∉ blk pv) := Lib.hid (fun z hz hc => by
  simp [blk] at hz; subst hz
  have h1 := (hV.blk _ hc).1; have h2 := (HI0.out.blk (w0.heap.size + 1) (by simp [blk])).2
  omega)
 clear hV HI0; go_wp2_with fail
 go_loopw [5, 6, 15] (fun b g a wl => ∃ (i m : Nat) (q : Option Addr) (k : Nat), b = .slice q m k ∧ g = .bool (startLF (vs.take i) u).2 ∧ a = .int .i64 (i : Int) ∧ i ≤ N ∧ Hid (OutK luCells 68 5 w1 wl q m k (startLF (vs.take i) u).1 ∧ OutK luCells 68 5 w1 wl pv N kv vs ∧ (∀ z ∈ blk q, z ∉ blk pv))) (fun _ _ a _ => N - (intOf a).toNat)
 case atStart => exact ⟨0, 0, _, 0, rfl, rfl, rfl, Nat.zero_le _, Lib.hid ⟨HI3.out, HV.out, Hap.out⟩⟩
 case round =>
  clear HI3 HV Hap; obtain ⟨i, m, q, k, rfl, rfl, rfl, hi, HI⟩ := hrel
  by_cases hlt : i < N
  ·skip
   obtain ⟨x, hx⟩ : ∃ x, vs[i]? = some x := ⟨_, List.getElem?_eq_getElem (by rw [HN.out]; assumption)⟩; have hrd := HI.out.2.1.rd.1; have hne : vs.flatMap luCells ≠ [] := fun e' => (by have := flat_get luCells 5 luCells_len vs _ x 0 hx (by omega); rw [e'] at this; cases this); obtain ⟨bq, off, rfl, -⟩ := hrd.lt hne; have d0 := rd_elem luCells_len hrd hx (r := 0) rfl; have d1 := rd_elem luCells_len hrd hx (r := 1) rfl; have d2 := rd_elem luCells_len hrd hx (r := 2) rfl; have d3 := rd_elem luCells_len hrd hx (r := 3) rfl; have d4 := rd_elem luCells_len hrd hx (r := 4) rfl; rw [Addr.add_lit, ← Nat.add_assoc] at d0 d1 d2 d3 d4
   rw [Nat.add_zero] at d0; clear hrd hne; obtain ⟨wt, hwt⟩ : ∃ wt, wt = wr.alloc (.cells #[.int .i64 x.u.id.node, .int .i64 x.u.id.boot, .int .i64 x.u.id.seq, .string (str x.u.key), .slice x.q x.u.parts.length x.c] 68) := ⟨_, rfl⟩; have ot : Only [] wr wt := (by rw [hwt]; exact Only.alloc _ _); have rt : Row wt wr.heap.size 68 [.int .i64 x.u.id.node, .int .i64 x.u.id.boot, .int .i64 x.u.id.seq, .string (str x.u.key), .slice x.q x.u.parts.length x.c] := (by rw [hwt]; exact Row.newOf _ _ _ _ rfl); obtain ⟨hI, hV, hap⟩ := HI.out; have rO := (Hr1.out.only0 hI.2.2).only0 ot; have hsy : wt.heap.size = wr.heap.size + 1 := by rw [hwt]; simp
   have hml := startLF_len vs u i; obtain ⟨S, hS⟩ : ∃ S, startLF (vs.take i) u = S := ⟨_, rfl⟩; obtain ⟨acc, bo⟩ := S; have hst := startLF_succ (u := u) hx; rw [hS] at hst hml hI; rw [hS]; dsimp only at hml hI ⊢; have hm2 : m ≤ 2 * i := (by rw [← hI.2.1]; exact hml); have hIt := hI.only0 ot; have hVt := hV.only0 ot; have HE2 : Hid ((startLF (vs.take (i + 1)) u).2 = (bo || decide (ltI u.u.id x.u.id))) := Lib.hid (by rw [hst]; rfl); have hst1 : (startLF (vs.take (i + 1)) u).1 = (acc ++ (if bo = false ∧ ltI u.u.id x.u.id then [u] else [])) ++ [x] := (by rw [hst]; rfl); have hbx : wr.heap.size ∉ blk q := fun hc => by have := (hI.blk _ hc).2; omega
   have hle := less_any u.u.id x.u.id wt; unfold idV at hle; have a0 := rO.cell (i := 0) rfl; have a1 := rO.cell (i := 1) rfl; have a2 := rO.cell (i := 2) rfl; have a3 := rO.cell (i := 3) rfl; have a4 := rO.cell (i := 4) rfl; have e0 := rt.cell (i := 0) rfl; have e1 := rt.cell (i := 1) rfl; have e2 := rt.cell (i := 2) rfl; have e3 := rt.cell (i := 3) rfl; have e4 := rt.cell (i := 4) rfl
   cases bo with
   | true =>
    rw [if_neg (by simp)] at hst1; rw [Bool.true_or] at HE2; rw [List.append_nil] at hst1; obtain ⟨q2, k2, w6, Hap2, hO2, oq, hq⟩ := hIt.push (P := Try.prog) (t := 61) Try.underlying61 Try.infoLU rfl (by omega) (by omega) luCells_len luCells_one x (by omega); have hV6 : OutK luCells 68 5 w1 w6 (some ⟨bq, off, none⟩ : Option Addr) N kv vs := hVt.keep oq hap (fun z hz => (hIt.blk z hz).1); have HE : Hid (OutK luCells 68 5 w1 w6 q2 (m + 1) k2 (startLF (vs.take (i + 1)) u).1 ∧ OutK luCells 68 5 w1 w6 (some ⟨bq, off, none⟩ : Option Addr) N kv vs ∧ (∀ z ∈ blk q2, z ∉ blk (some ⟨bq, off, none⟩ : Option Addr))) := Lib.hid ⟨by rw [hst1]; exact hO2, hV6, fun z hz hc => (hq z hz).elim (fun h => hap z h hc) (fun h => by have := (hVt.blk z hc).2; omega)⟩
    unfold luCells at Hap2; rw [hsy, hwt] at Hap2; rw [hwt] at a0 a1 a2 a3 a4 e0 e1 e2 e3 e4; clear hst hst1 hx hIt HI hI hV hap hVt hml hS rO rt ot hwt hle hO2 oq hq hV6 hsy hbx
    go_wp2_with (first | (at_builtin; refine wpl_append (s := .tmp 32) (x := .tmp 34) rfl rfl rfl rfl Hap2.out ?_))
    refine ⟨⟨i + 1, m + 1, q2, k2, rfl, by rw [HE2.out], by go_num, by omega, HE⟩, ?_⟩; show N - ((i : Int) + 1).toNat < N - ((i : Int)).toNat; omega
   | false =>
    rw [Bool.false_or] at HE2; have Hwt := Lib.hid hwt; have Hrt := Lib.hid rt; have HIt := Lib.hid (And.intro hIt (And.intro hVt hap)); have Hst1 := Lib.hid hst1; have Hbx := Lib.hid hbx; rw [hwt] at a0 a1 a2 a3 a4 e0 e1 e2 e3 e4; clear hst hst1 hx hIt HI hI hV hap hVt hml hS rO rt ot hwt hsy hbx; go_wp2_with fail; rw [← Hwt.out]; (with_reducible refine hle.mono ?_); clear hle a0 a1 a2 a3 a4 e0 e1 e2 e3 e4 d0 d1 d2 d3 d4 Hwt; rintro e wz ⟨rfl, oz⟩; obtain ⟨hIt, hVt, hap⟩ := HIt.out; have hI3 := hIt.only0 oz; have hV3 := hVt.only0 oz; have rx := Hrt.out.only0 oz; have rO := Hr1.out.only0 hI3.2.2; have hst1 := Hst1.out
    have hbx := Hbx.out; have a0 := rO.cell (i := 0) rfl; have a1 := rO.cell (i := 1) rfl; have a2 := rO.cell (i := 2) rfl; have a3 := rO.cell (i := 3) rfl; have a4 := rO.cell (i := 4) rfl; have e0 := rx.cell (i := 0) rfl; have e1 := rx.cell (i := 1) rfl; have e2 := rx.cell (i := 2) rfl; have e3 := rx.cell (i := 3) rfl; have e4 := rx.cell (i := 4) rfl
    by_cases hlx : ltI u.u.id x.u.id
    ·rw [decide_eq_true hlx] at HE2 ⊢; rw [if_pos (by simp [hlx])] at hst1; obtain ⟨q1, k1, w5, Hap1, hO1, oq, hq⟩ := hI3.push (P := Try.prog) (t := 61) Try.underlying61 Try.infoLU rfl (by omega) (by omega) luCells_len luCells_one u (by omega); have hV5 := hV3.keep oq hap (fun z hz => (hI3.blk z hz).1); have hap5 : ∀ z ∈ blk q1, z ∉ blk (some ⟨bq, off, none⟩ : Option Addr) := fun z hz hc => (hq z hz).elim (fun h => hap z h hc) (fun h => by have := (hV3.blk z hc).2; omega); have rx5 := rx.only oq hbx; have f0 := rx5.cell (i := 0) rfl; have f1 := rx5.cell (i := 1) rfl; have f2 := rx5.cell (i := 2) rfl
     have f3 := rx5.cell (i := 3) rfl; have f4 := rx5.cell (i := 4) rfl; obtain ⟨q2, k2, w6, Hap2, hO2, oq2, hq2⟩ := hO1.push (P := Try.prog) (t := 61) Try.underlying61 Try.infoLU rfl (by omega) (by omega) luCells_len luCells_one x (by omega); have hV6 := hV5.keep oq2 hap5 (fun z hz => (hO1.blk z hz).1); have HE : Hid (OutK luCells 68 5 w1 w6 q2 (m + 1 + 1) k2 (startLF (vs.take (i + 1)) u).1 ∧ OutK luCells 68 5 w1 w6 (some ⟨bq, off, none⟩ : Option Addr) N kv vs ∧ (∀ z ∈ blk q2, z ∉ blk (some ⟨bq, off, none⟩ : Option Addr))) := Lib.hid ⟨by rw [hst1]; exact hO2, hV6, fun z hz hc => (hq2 z hz).elim (fun h => hap5 z h hc) (fun h => by have := (hV5.blk z hc).2; omega)⟩
     unfold luCells at Hap1 Hap2; clear hst1 hIt HIt hI3 hV3 hVt hap rO rx Hrt Hst1 Hbx hbx hO1 oq hq hV5 hap5 rx5 hO2 oq2 hq2 hV6 oz hlx
     go_wp2_with (first | (at_builtin; refine wpl_append (s := .tmp 28) (x := .tmp 30) rfl rfl rfl rfl Hap1.out ?_) | (at_builtin; refine wpl_append (s := .tmp 32) (x := .tmp 34) rfl rfl rfl rfl Hap2.out ?_))
     refine ⟨⟨i + 1, m + 1 + 1, q2, k2, rfl, by rw [HE2.out], by go_num, by omega, HE⟩, ?_⟩; show N - ((i : Int) + 1).toNat < N - ((i : Int)).toNat; omega
    ·rw [decide_eq_false hlx] at HE2 ⊢; rw [if_neg (by simp [hlx]), List.append_nil] at hst1; obtain ⟨q2, k2, w6, Hap2, hO2, oq, hq⟩ := hI3.push (P := Try.prog) (t := 61) Try.underlying61 Try.infoLU rfl (by omega) (by omega) luCells_len luCells_one x (by omega); have hV6 := hV3.keep oq hap (fun z hz => (hI3.blk z hz).1); have HE : Hid (OutK luCells 68 5 w1 w6 q2 (m + 1) k2 (startLF (vs.take (i + 1)) u).1 ∧ OutK luCells 68 5 w1 w6 (some ⟨bq, off, none⟩ : Option Addr) N kv vs ∧ (∀ z ∈ blk q2, z ∉ blk (some ⟨bq, off, none⟩ : Option Addr))) := Lib.hid ⟨by rw [hst1]; exact hO2, hV6, fun z hz hc => (hq z hz).elim (fun h => hap z h hc) (fun h => by have := (hV3.blk z hc).2; omega)⟩
     unfold luCells at Hap2; clear hst1 hIt HIt hI3 hV3 hVt hap rO rx Hrt Hst1 Hbx hbx oq hq hO2 hV6 oz hlx
     go_wp2_with (first | (at_builtin; refine wpl_append (s := .tmp 32) (x := .tmp 34) rfl rfl rfl rfl Hap2.out ?_))
     refine ⟨⟨i + 1, m + 1, q2, k2, rfl, by rw [HE2.out], by go_num, by omega, HE⟩, ?_⟩; show N - ((i : Int) + 1).toNat < N - ((i : Int)).toNat; omega
  ·obtain rfl : i = N := (by omega); obtain ⟨hI, hV, hap⟩ := HI.out; have rO := Hr1.out.only0 hI.2.2; have hml := startLF_len vs u i; rw [List.take_of_length_le (by rw [HN.out]; exact Nat.le_refl _)] at hI hml ⊢; have hm2 : m ≤ 2 * i := (by rw [← hI.2.1]; exact hml); have hpl := Hfin.out; obtain ⟨S, hS⟩ : ∃ S, startLF vs u = S := ⟨_, rfl⟩; obtain ⟨acc, bo⟩ := S; rw [hS] at hpl hI ⊢; dsimp only at hpl hI ⊢
   cases bo with
   | true =>
    rw [if_pos rfl] at hpl; have HE : Hid (OutK luCells 68 5 w1 wr q m k (startLL us u)) := Lib.hid (by rw [hpl]; exact hI); clear HI hI hV hap hpl hS rO hml; go_wp2_with fail
    go_ret
    exact ⟨_, _, _, rfl, HE.out.base HO.out⟩
   | false =>
    rw [if_neg (by simp)] at hpl; obtain ⟨q2, k2, w6, Hap2, hO2, -, -⟩ := hI.push (P := Try.prog) (t := 61) Try.underlying61 Try.infoLU rfl (by omega) (by omega) luCells_len luCells_one u (by omega); have HE : Hid (OutK luCells 68 5 w1 w6 q2 (m + 1) k2 (startLL us u)) := Lib.hid (by rw [hpl]; exact hO2); have a0 := rO.cell (i := 0) rfl; have a1 := rO.cell (i := 1) rfl; have a2 := rO.cell (i := 2) rfl; have a3 := rO.cell (i := 3) rfl; have a4 := rO.cell (i := 4) rfl; unfold luCells at Hap2; clear HI hI hV hap hpl hS rO hO2 hml
    go_wp2_with (first | (at_builtin; refine wpl_append (s := .tmp 39) (x := .tmp 41) rfl rfl rfl rfl Hap2.out ?_))
    go_ret
    exact ⟨_, _, _, rfl, HE.out.base HO.out⟩
theorem partR_succ (ps : List CPart) (p : CPart) (n : Nat) : partR ps p (n + 1) = partR ps p n ++ partRs ps p (n + 1) := rfl
theorem partRs_len (ps : List CPart) (p : CPart) (n : Nat) : (partRs ps p n).length ≤ ps.length + 1 := by
 unfold partRs; split
 ·simp
 ·have := List.length_filter_le (fun x : CPart => decide (x.num = n)) ps; omega
theorem partR_len (ps : List CPart) (p : CPart) : ∀ n, (partR ps p n).length ≤ n * (ps.length + 1)
 | 0 => by simp [partR, segs]
 | n + 1 => by rw [partR_succ, List.length_append]; have := partR_len ps p n; have := partRs_len ps p (n + 1); rw [Nat.succ_mul]; omega
set_option maxHeartbeats 16000000 in
theorem ref11part_any (p : Option Addr) (n c : Nat) (ps : List CPart) (z : CPart) (w0 : World) (hn : ps.length = n) (hnb : n ≤ 1000) (hx : Rd w0 p (ps.flatMap ptCells)) :
  Calls Try.prog 40 #[.slice p n c, ptV z] w0 fun e w' => ∃ q m k, e = .returned (.slice q m k) ∧ OutK ptCells 70 6 w0 w' q m k (partR ps z 16) := by
 obtain ⟨w1, hw1⟩ : ∃ w1, w1 = w0.alloc (.cells #[.int .i64 z.num, .int .i64 z.pc.blob.node, .int .i64 z.pc.blob.boot, .int .i64 z.pc.blob.seq, .int .i64 z.pc.size, .string (str z.pc.etag)] 70) := ⟨_, rfl⟩; obtain ⟨w2, hw2⟩ : ∃ w2, w2 = w1.alloc (.cells #[] 70) := ⟨_, rfl⟩; have o1 : Only [] w0 w1 := (by rw [hw1]; exact Only.alloc _ _); have s1 : w1.heap.size = w0.heap.size + 1 := (by rw [hw1]; simp); have r1 : Row w1 w0.heap.size 70 [.int .i64 z.num, .int .i64 z.pc.blob.node, .int .i64 z.pc.blob.boot, .int .i64 z.pc.blob.seq, .int .i64 z.pc.size, .string (str z.pc.etag)] := by rw [hw1]; exact Row.newOf _ _ _ _ rfl
 have HI0 : Hid (OutK ptCells 70 6 w1 w2 (some ⟨w0.heap.size + 1, 0, none⟩) 0 0 (partR ps z 0)) := Lib.hid (by rw [← s1]; exact OutK.start (Only.refl _ _) hw2); rw [hw1] at hw2; have Hw := Lib.hid hw2; have Hn := Lib.hid hn; have Hx := Lib.hid hx; have HO := Lib.hid o1; have Hr1 := Lib.hid r1; have Hpl : Hid (∀ j, (partR ps z j).length ≤ j * (n + 1)) := Lib.hid (fun j => by rw [← hn]; exact partR_len ps z j); unfold ptV; clear hn hx o1 s1 r1 hw1 hw2
 go_enter Try.func40, Try.ntmps40
 go_wp2_with fail; rw [← Hw.out]; clear Hw
 go_loopw [5, 6] (fun b a wl => ∃ (i m : Nat) (q : Option Addr) (k : Nat), b = .slice q m k ∧ a = .int .i64 ((i : Int) + 1) ∧ i ≤ 16 ∧ Hid (OutK ptCells 70 6 w1 wl q m k (partR ps z i))) (fun _ a _ => 17 - (intOf a).toNat)
 case atStart => exact ⟨0, 0, _, 0, rfl, rfl, Nat.zero_le _, HI0⟩
 case round =>
  clear HI0; obtain ⟨i, m, q, k, rfl, rfl, hi, HI⟩ := hrel; have rO := Hr1.out.only0 HI.out.2.2; have hml := Hpl.out i; have hm2 : m ≤ i * (n + 1) := (by rw [← HI.out.2.1]; exact hml); have hm3 : i * (n + 1) ≤ 16 * 1001 := Nat.mul_le_mul hi (by omega); have hm4 : m ≤ 16016 := (by omega); have a0 := rO.cell (i := 0) rfl; have a1 := rO.cell (i := 1) rfl; have a2 := rO.cell (i := 2) rfl; have a3 := rO.cell (i := 3) rfl; have a4 := rO.cell (i := 4) rfl; have a5 := rO.cell (i := 5) rfl
  by_cases hlt : i < 16
  ·have h16 : decide (((i : Int) + 1) ≤ 16) = true := decide_eq_true (by omega)
   by_cases heq : ((i : Int) + 1) = z.num
   ·have hst : partR ps z (i + 1) = partR ps z i ++ [z] := (by rw [partR_succ]; unfold partRs; rw [if_pos (by rw [← heq]; simp)]); obtain ⟨q2, k2, w6, Hap2, hO2, -, -⟩ := HI.out.push (P := Try.prog) (t := 66) Try.underlying66 Try.infoPt rfl (by omega) (by omega) ptCells_len ptCells_one z (by omega); have HE : Hid (OutK ptCells 70 6 w1 w6 q2 (m + 1) k2 (partR ps z (i + 1))) := Lib.hid (by rw [hst]; exact hO2); have hbe : (((i : Int) + 1) == z.num) = true := beq_iff_eq.2 heq; unfold ptCells at Hap2; clear hst HI rO hO2 hml hm2 hm3 heq
    go_wp2_with (first | (at_builtin; refine wpl_append (s := .tmp 18) (x := .tmp 20) rfl rfl rfl rfl Hap2.out ?_))
    refine ⟨⟨i + 1, m + 1, q2, k2, rfl, by go_num, by omega, HE⟩, ?_⟩; show 17 - ((i : Int) + 1 + 1).toNat < 17 - ((i : Int) + 1).toNat; omega
   ·have Hst : Hid (partR ps z (i + 1) = partR ps z i ++ ps.filter fun x => decide (x.num = ((i + 1 : Nat) : Int))) := Lib.hid (by rw [partR_succ]; unfold partRs; rw [if_neg (by simpa using heq)]); have hbe : (((i : Int) + 1) == z.num) = false := beq_eq_false_iff_ne.2 heq; have HI1 : Hid (OutK ptCells 70 6 w1 wr q m k (partR ps z i ++ (ps.take 0).filter fun x => decide (x.num = ((i + 1 : Nat) : Int)))) := Lib.hid (by simpa using HI.out); clear HI rO hml hm2 hm3 heq; go_wp2_with fail; clear a0 a1 a2 a3 a4 a5
    go_loopw [5, 24] (fun b a wl => ∃ (j m : Nat) (q : Option Addr) (k : Nat), b = .slice q m k ∧ a = .int .i64 (j : Int) ∧ j ≤ n ∧ m ≤ 16016 + j ∧ Hid (OutK ptCells 70 6 w1 wl q m k (partR ps z i ++ (ps.take j).filter fun x => decide (x.num = ((i + 1 : Nat) : Int))))) (fun _ a _ => n - (intOf a).toNat)
    case atStart => exact ⟨0, m, q, k, rfl, rfl, Nat.zero_le _, by omega, HI1⟩
    case round =>
     clear HI1 hm4; obtain ⟨j, m, q, k, rfl, rfl, hj, hm4, HI⟩ := hrel
     by_cases hlj : j < n
     ·skip
      obtain ⟨x, hx⟩ : ∃ x, ps[j]? = some x := ⟨_, List.getElem?_eq_getElem (by rw [Hn.out]; assumption)⟩; have hrd := Hx.out.only0 (HO.out.trans0 HI.out.2.2); have hne : ps.flatMap ptCells ≠ [] := fun e' => (by have := flat_get ptCells 6 ptCells_len ps _ x 0 hx (by omega); rw [e'] at this; cases this); obtain ⟨bq, off, rfl, -⟩ := hrd.lt hne; have d0 := rd_elem ptCells_len hrd hx (r := 0) rfl; have d1 := rd_elem ptCells_len hrd hx (r := 1) rfl; have d2 := rd_elem ptCells_len hrd hx (r := 2) rfl; have d3 := rd_elem ptCells_len hrd hx (r := 3) rfl; have d4 := rd_elem ptCells_len hrd hx (r := 4) rfl; have d5 := rd_elem ptCells_len hrd hx (r := 5) rfl
      rw [Addr.add_lit, ← Nat.add_assoc] at d0 d1 d2 d3 d4 d5; rw [Nat.add_zero] at d0; clear hrd hne; obtain ⟨wt, hwt⟩ : ∃ wt, wt = wr.alloc (.cells #[.int .i64 x.num, .int .i64 x.pc.blob.node, .int .i64 x.pc.blob.boot, .int .i64 x.pc.blob.seq, .int .i64 x.pc.size, .string (str x.pc.etag)] 70) := ⟨_, rfl⟩; have ot : Only [] wr wt := (by rw [hwt]; exact Only.alloc _ _); have rt : Row wt wr.heap.size 70 [.int .i64 x.num, .int .i64 x.pc.blob.node, .int .i64 x.pc.blob.boot, .int .i64 x.pc.blob.seq, .int .i64 x.pc.size, .string (str x.pc.etag)] := (by rw [hwt]; exact Row.newOf _ _ _ _ rfl); have hsy : wt.heap.size = wr.heap.size + 1 := by rw [hwt]; simp
      have hIt := HI.out.only0 ot; have hst := filter_take (p := fun x : CPart => decide (x.num = ((i + 1 : Nat) : Int))) hx; have e0 := rt.cell (i := 0) rfl; have e1 := rt.cell (i := 1) rfl; have e2 := rt.cell (i := 2) rfl; have e3 := rt.cell (i := 3) rfl; have e4 := rt.cell (i := 4) rfl; have e5 := rt.cell (i := 5) rfl
      by_cases hnm : x.num = (i : Int) + 1
      ·have hb2 : (x.num == (i : Int) + 1) = true := beq_iff_eq.2 hnm; rw [if_pos (by simpa using hnm)] at hst; obtain ⟨q2, k2, w6, Hap2, hO2, -, -⟩ := hIt.push (P := Try.prog) (t := 66) Try.underlying66 Try.infoPt rfl (by omega) (by omega) ptCells_len ptCells_one x (by omega); have HE : Hid (OutK ptCells 70 6 w1 w6 q2 (m + 1) k2 (partR ps z i ++ (ps.take (j + 1)).filter fun x => decide (x.num = ((i + 1 : Nat) : Int)))) := Lib.hid (by rw [hst, ← List.append_assoc]; exact hO2); unfold ptCells at Hap2; rw [hsy, hwt] at Hap2; rw [hwt] at e0 e1 e2 e3 e4 e5; clear hst hx hIt HI rt ot hwt hnm hsy hO2
       go_wp2_with (first | (at_builtin; refine wpl_append (s := .tmp 32) (x := .tmp 34) rfl rfl rfl rfl Hap2.out ?_))
       refine ⟨⟨j + 1, m + 1, q2, k2, rfl, by go_num, by omega, by omega, HE⟩, ?_⟩; show n - ((j : Int) + 1).toNat < n - ((j : Int)).toNat; omega
      ·have hb2 : (x.num == (i : Int) + 1) = false := beq_eq_false_iff_ne.2 hnm; rw [if_neg (by simpa using hnm), List.append_nil] at hst; have HE : Hid (OutK ptCells 70 6 w1 wt q m k (partR ps z i ++ (ps.take (j + 1)).filter fun x => decide (x.num = ((i + 1 : Nat) : Int)))) := Lib.hid (by rw [hst]; exact hIt); have Hwt := Lib.hid hwt; rw [hwt] at e0 e1 e2 e3 e4 e5; clear hst hx hIt HI rt ot hwt hnm hsy; go_wp2_with fail; rw [← Hwt.out]; refine ⟨⟨j + 1, m, q, k, rfl, by go_num, by omega, by omega, HE⟩, ?_⟩; show n - ((j : Int) + 1).toNat < n - ((j : Int)).toNat; omega
     ·obtain rfl : j = n := by omega
      have HE : Hid (OutK ptCells 70 6 w1 wr q m k (partR ps z (i + 1))) := Lib.hid (by
       have h := HI.out; rw [List.take_of_length_le (l := ps) (by rw [Hn.out]; exact Nat.le_refl _)] at h
       rw [Hst.out]; exact h)
      clear HI; go_wp2_with fail; refine ⟨⟨i + 1, m, q, k, rfl, by go_num, by omega, HE⟩, ?_⟩; show 17 - ((i : Int) + 1 + 1).toNat < 17 - ((i : Int) + 1).toNat; omega
  ·obtain rfl : i = 16 := (by omega); have HE := HI; clear HI rO a0 a1 a2 a3 a4 a5 hml hm2 hm3; go_wp2_with fail
   go_ret
   exact ⟨_, _, _, rfl, HE.out.base HO.out⟩
end Go.Proofs.Ytfeglnpmpgipiaa
end
section
set_option linter.unusedVariables false
set_option maxRecDepth 100000
namespace Go.Proofs.Ytfeglnpmpgipiaa
open Go.RowKit
theorem floorsR_succ (fs : List Cid) (id : Cid) (n : Nat) : floorsR fs id (n + 1) = floorsR fs id n ++ floorRs fs id n := rfl
theorem floorRs_len (fs : List Cid) (id : Cid) (n : Nat) : (floorRs fs id n).length ≤ 1 := by unfold floorRs; split <;> simp
theorem floorsR_len (fs : List Cid) (id : Cid) : ∀ n, (floorsR fs id n).length ≤ n
 | 0 => by simp [floorsR, segs]
 | n + 1 => by rw [floorsR_succ, List.length_append]; have := floorsR_len fs id n; have := floorRs_len fs id n; omega
set_option maxHeartbeats 16000000 in
theorem ref11floors_any (p : Option Addr) (n c : Nat) (fs : List Cid) (id : Cid) (w0 : World) (hn : fs.length = n) (hnb : n ≤ 1000) (hp : p = none → n = 0 ∧ c = 0) (hx : Rd w0 p (fs.flatMap idCells)) :
  Calls Try.prog 27 #[.slice p n c, idV id] w0 fun e w' => ∃ q m k, e = .returned (.slice q m k) ∧ OutK idCells 31 3 w0 w' q m k (floorsR fs id 16) := by
 obtain ⟨w1, hw1⟩ : ∃ w1, w1 = w0.alloc (.cells #[.int .i64 id.node, .int .i64 id.boot, .int .i64 id.seq] 31) := ⟨_, rfl⟩; obtain ⟨w2, hw2⟩ : ∃ w2, w2 = w1.alloc (.cells #[] 31) := ⟨_, rfl⟩; have o1 : Only [] w0 w1 := (by rw [hw1]; exact Only.alloc _ _); have s1 : w1.heap.size = w0.heap.size + 1 := (by rw [hw1]; simp); have r1 : Row w1 w0.heap.size 31 [.int .i64 id.node, .int .i64 id.boot, .int .i64 id.seq] := (by rw [hw1]; exact Row.newOf _ _ _ _ rfl); have HI0 : Hid (OutK idCells 31 3 w1 w2 (some ⟨w0.heap.size + 1, 0, none⟩) 0 0 (floorsR fs id 0)) := Lib.hid (by rw [← s1]; exact OutK.start (Only.refl _ _) hw2)
 rw [hw1] at hw2; have Hw := Lib.hid hw2; have Hn := Lib.hid hn; have Hp := Lib.hid hp; have Hx := Lib.hid hx; have HO := Lib.hid o1; have Hr1 := Lib.hid r1; unfold idV; clear hn hx hp o1 s1 r1 hw1 hw2
 go_enter Try.func27, Try.ntmps27
 go_wp2_with fail; rw [← Hw.out]; clear Hw
 go_loopw [5, 6] (fun b a wl => ∃ (i m : Nat) (q : Option Addr) (k : Nat), b = .slice q m k ∧ a = .int .i64 (i : Int) ∧ i ≤ 16 ∧ Hid (OutK idCells 31 3 w1 wl q m k (floorsR fs id i))) (fun _ a _ => 16 - (intOf a).toNat)
 case atStart => exact ⟨0, 0, _, 0, rfl, rfl, Nat.zero_le _, HI0⟩
 case round =>
  clear HI0; obtain ⟨i, m, q, k, rfl, rfl, hi, HI⟩ := hrel; have Hm : Hid (m ≤ i) := Lib.hid (by rw [← HI.out.2.1]; exact floorsR_len fs id i)
  by_cases hlt : i < 16
  ·have h16 : decide ((i : Int) < 16) = true := decide_eq_true (by omega); obtain ⟨wo, hwo⟩ : ∃ wo, wo = wr.alloc (.cells #[.int .i64 (-1), .int .i64 0, .int .i64 0] 31) := ⟨_, rfl⟩; have oo : Only [] wr wo := (by rw [hwo]; exact Only.alloc _ _); have ro : Row wo wr.heap.size 31 (idCells ⟨-1, 0, 0⟩) := (by rw [hwo]; exact Row.newOf _ _ _ _ rfl); have Hro := Lib.hid ro; have HIo := Lib.hid (HI.out.only0 oo); have hsz : wr.heap.size < wo.heap.size := ro.lt; have Hbq : Hid (wr.heap.size ∉ blk q) := Lib.hid (fun hc => by have := (HI.out.blk _ hc).2; omega); obtain ⟨bx, hbx⟩ : ∃ bx, wr.heap.size = bx := ⟨_, rfl⟩
   rw [hbx] at Hro Hbq hsz; have Hsz0 := Lib.hid hsz; have Hb0 : Hid (w1.heap.size ≤ bx) := Lib.hid (by have := HI.out.2.2.size; rw [← hbx]; exact this); have Hrd : Hid (Rd wo p (fs.flatMap idCells)) := Lib.hid (Hx.out.only0 (HO.out.trans0 HIo.out.2.2)); have Hz : Hid (Row wo w0.heap.size 31 [.int .i64 id.node, .int .i64 id.boot, .int .i64 id.seq]) := Lib.hid (Hr1.out.only0 HIo.out.2.2); have Hsz : Hid (n + 1 ≤ 1001) := Lib.hid (by omega); have Hwo := Lib.hid hwo; clear hwo oo ro hsz HI
   go_upto_region 6 with (fail)
   rw [← Hwo.out]; clear Hwo hbx; have hRr : ∀ x, Below wo.heap.size x x := fun x => Below.refl _ _; have hRt : ∀ x b e, Below wo.heap.size x b → Below wo.heap.size b e → Below wo.heap.size x e := fun x b e h h2 => h.trans h2; have hRd : Below wo.heap.size wo wo.drew := (Only.drew _).below.mono (Nat.le_refl _)
   have hRs : ∀ j w, DirtR [(5, Below wo.heap.size)] j w w := DirtR.refl (by
    intro x hx w; simp only [List.mem_cons, List.not_mem_nil, or_false] at hx
    rcases hx with rfl <;> exact Below.refl _ _)
   refine wp_region_rg8 (Below wo.heap.size) (DirtR [(5, Below wo.heap.size)]) [5] [[], [(0, none)], [(16, some 1), (17, some 0)], [(3, none)], [(19, some 0)], [(18, some 2), (20, some 0)], [(21, some 0)], []] [(21, 2), (22, 1), (23, 0)] [none, none, none, none, none, none, none, none, none, none, none, none, none, none, none, none, some 16, some 17, some 18, some 19, some 20, some 21, some 22, some 23, none, none, none, none, none, none, none, none, none, none, none, none, none, none, none, none, none, none, none, none, none, none, none, none, none, none, none] (by kernel_rfl) rfl (by kernel_rfl) hRr hRt hRs hRd (by kernel_rfl) ?_
   refine ⟨Sl0K 31 3 wo.heap.size, stands5_of Sl0K.stable (by intro x hx hk; simp only [List.mem_cons, List.not_mem_nil, or_false] at hx; rcases hx with rfl <;> exact Bool.noConfusion (hk.symm.trans (by kernel_rfl : _ = true))), fun a w hR hf => ?_, ?_⟩
   ·refine rg_plain rfl fun K hK => ?_; go_simp; refine hK _ _ ⟨_, rfl, OwnK.new (K := 3) (n := 0) [] hR.size rfl (by omega)⟩ ⟨(Only.alloc w _).below.mono hR.size, Only.alloc w _⟩
   apply rgu_ev
   ·intro a w hR hf; obtain ⟨e0, -⟩ := hf; replace e0 : a.tmps.getD 0 undef = _ := e0; refine rg_plain rfl fun K hK => ?_; go_simp; exact hK _ _ rfl ⟨hRr _, hRs _ _⟩
   refine ⟨SlK idCells 31 3 wo.heap.size n fs, stands5_of SlK.stable (by intro x hx hk; simp only [List.mem_cons, List.not_mem_nil, or_false] at hx; rcases hx with rfl <;> exact Bool.noConfusion (hk.symm.trans (by kernel_rfl : _ = true))), fun a w hR hf => ?_, ?_⟩
   ·obtain ⟨e16, e17, -⟩ := hf; replace e16 : Sl0K 31 3 wo.heap.size (a.tmps.getD 16 undef) w := e16; replace e17 : a.tmps.getD 17 undef = _ := e17; refine rg_plain rfl fun K hK => ?_; obtain ⟨v', w', hra, hS, hA0⟩ := Sl0K.run (P := Try.prog) (t := 23) Try.underlying23 Try.infoId rfl (by omega) (by omega) idCells_len idCells_one (news := fs) e16 hR.size (Hrd.out.only0 (Only.ofBelow hR)) (Hn.out) Hp.out (by have := Hsz.out; omega); refine rg_append (s := .tmp 16) (x := .tmp 17) rfl rfl e17 hra ?_; exact hK _ _ hS ⟨hA0.below.mono hR.size, hA0⟩
   apply rgu_ev
   ·intro a w hR hf; obtain ⟨e3, -⟩ := hf; replace e3 : a.tmps.getD 3 undef = _ := e3; refine rg_plain rfl fun K hK => ?_; have hz := Hz.out.only0 (Only.ofBelow hR); have z0 := hz.cell (i := 0) rfl; have z1 := hz.cell (i := 1) rfl; have z2 := hz.cell (i := 2) rfl; go_simp; exact hK _ _ rfl ⟨hRr _, hRs _ _⟩
   refine ⟨SlK idCells 31 3 wo.heap.size 1 [id], stands5_of SlK.stable (by intro x hx hk; simp only [List.mem_cons, List.not_mem_nil, or_false] at hx; rcases hx with rfl <;> exact Bool.noConfusion (hk.symm.trans (by kernel_rfl : _ = true))), fun a w hR hf => ?_, ?_⟩
   ·obtain ⟨e19, -⟩ := hf; replace e19 : a.tmps.getD 19 undef = _ := e19; refine rg_plain rfl fun K hK => ?_; have e19' := e19; rw [Array.getD_eq_getD_getElem?] at e19'; go_simp; refine hK _ _ ⟨_, _, rfl, rfl, OwnK.new (K := 3) (n := 1) (idCells id) hR.size rfl (by omega)⟩ ⟨(Only.alloc w _).below.mono hR.size, Only.alloc w _⟩
   refine ⟨SlK idCells 31 3 wo.heap.size (n + 1) (fs ++ [id]), stands5_of SlK.stable (by intro x hx hk; simp only [List.mem_cons, List.not_mem_nil, or_false] at hx; rcases hx with rfl <;> exact Bool.noConfusion (hk.symm.trans (by kernel_rfl : _ = true))), fun a w hR hf => ?_, ?_⟩
   ·obtain ⟨e18, e20, -⟩ := hf; replace e18 : SlK idCells 31 3 wo.heap.size n fs (a.tmps.getD 18 undef) w := e18; replace e20 : SlK idCells 31 3 wo.heap.size 1 [id] (a.tmps.getD 20 undef) w := e20; refine rg_plain rfl fun K hK => ?_; obtain ⟨q2, c2, e20, -, hrd2, hq2⟩ := SlK.rd e20; obtain ⟨v', w', hra, hS, hB⟩ := SlK.run (P := Try.prog) (t := 23) Try.underlying23 Try.infoId rfl (by omega) (by omega) idCells_len idCells_one (news := [id]) (r := 1) e18 hR.size hrd2 rfl hq2 (by have := Hsz.out; omega); refine rg_append (s := .tmp 18) (x := .tmp 20) rfl rfl e20 hra ?_; exact hK _ _ hS ⟨hB, hB⟩
   apply rgu_ev
   ·intro a w hR hf; obtain ⟨e21, -⟩ := hf; replace e21 : SlK idCells 31 3 wo.heap.size (n + 1) (fs ++ [id]) (a.tmps.getD 21 undef) w := e21; refine rg_plain rfl fun K hK => ?_; obtain ⟨q2, c2, e21, -, -, -⟩ := SlK.rd e21; go_simp; exact hK _ _ rfl ⟨hRr _, hRs _ _⟩
   apply rgu_ev
   ·intro a w hR hf; refine rg_plain rfl fun K hK => ?_; go_simp; exact hK _ _ rfl ⟨hRr _, hRs _ _⟩
   intro f w hR hf; dsimp only [mergeT]; obtain ⟨e21, e22, e23, -⟩ := hf; replace e21 : SlK idCells 31 3 wo.heap.size (n + 1) (fs ++ [id]) (f 21) w := e21; replace e22 : f 22 = _ := e22; rw [e22]; replace e23 : f 23 = _ := e23; rw [e23]; obtain ⟨pl, kl, e21v, hll, hrl, hpl⟩ := SlK.rd e21; obtain ⟨pl2, kl2, e21w, hll2, hown⟩ := e21; have Hblk : Hid (∀ z ∈ blk pl, wo.heap.size ≤ z) := Lib.hid (fun z hz => by rw [e21v] at e21w; cases e21w; exact (hown.view.2.2.2.2.2.2 z hz).1); rw [e21v]; have ho6 : Only [] wo w := Only.ofBelow hR; have HI6 := Lib.hid (HIo.out.only0 ho6); have Hb6 : Hid (Row w bx 31 (idCells (((fs ++ [id]).take 0).foldl (bestR i) ⟨-1, 0, 0⟩))) := Lib.hid (Hro.out.only0 ho6)
   have Hrl := Lib.hid hrl; have Hll := Lib.hid hll; have Hs6 := Lib.hid ho6.size; clear e21v e21w hll hrl hpl hown ho6 hR hRr hRt hRd hRs Hrd Hro HIo Hz; go_wp2_with fail
   go_loopw [23] (fun a wl => ∃ (j : Nat), a = .int .i64 (j : Int) ∧ j ≤ n + 1 ∧ Hid (Row wl bx 31 (idCells (((fs ++ [id]).take j).foldl (bestR i) ⟨-1, 0, 0⟩))) ∧ Hid (Only [bx] w wl)) (fun a _ => n + 1 - (intOf a).toNat)
   case atStart => exact ⟨0, rfl, Nat.zero_le _, Hb6, Lib.hid (Only.refl _ _)⟩
   case round =>
    clear Hb6; obtain ⟨j, rfl, hj, Hb, HOl⟩ := hrel
    by_cases hlj : j < n + 1
    ·skip
     obtain ⟨y, hy⟩ : ∃ y, (fs ++ [id])[j]? = some y := ⟨_, List.getElem?_eq_getElem (by rw [Hll.out]; assumption)⟩; have hrd := Hrl.out.only HOl.out (fun a ha hc => by have h1 := Hblk.out a.block (by rw [ha]; simp [blk]); have h2 := List.mem_singleton.1 hc; have h3 := Hsz0.out; omega); have hne : (fs ++ [id]).flatMap idCells ≠ [] := fun e' => (by have := flat_get idCells 3 idCells_len (fs ++ [id]) _ y 0 hy (by omega); rw [e'] at this; cases this); obtain ⟨bq, off, rfl, -⟩ := hrd.lt hne; have d0 := rd_elem idCells_len hrd hy (r := 0) rfl; have d1 := rd_elem idCells_len hrd hy (r := 1) rfl; have d2 := rd_elem idCells_len hrd hy (r := 2) rfl
     rw [Addr.add_lit, ← Nat.add_assoc] at d0 d1 d2; rw [Nat.add_zero] at d0; clear hrd hne; obtain ⟨wt, hwt⟩ : ∃ wt, wt = wr.alloc (.cells #[.int .i64 y.node, .int .i64 y.boot, .int .i64 y.seq] 31) := ⟨_, rfl⟩; have ot : Only [] wr wt := (by rw [hwt]; exact Only.alloc _ _); have rt : Row wt wr.heap.size 31 [.int .i64 y.node, .int .i64 y.boot, .int .i64 y.seq] := (by rw [hwt]; exact Row.newOf _ _ _ _ rfl); obtain ⟨b, hb⟩ : ∃ b, ((fs ++ [id]).take j).foldl (bestR i) ⟨-1, 0, 0⟩ = b := ⟨_, rfl⟩; have hst : ((fs ++ [id]).take (j + 1)).foldl (bestR i) ⟨-1, 0, 0⟩ = bestR i b y := by rw [take_snoc' hy, List.foldl_append, hb]; rfl
     have rb := Hb.out; rw [hb] at rb; replace rb : Row wr bx 31 [.int .i64 b.node, .int .i64 b.boot, .int .i64 b.seq] := rb; have rbt := rb.only0 ot; have hbt : bx < wr.heap.size := rb.lt; have hle := less_any b y wt; unfold idV at hle; have g0 := rbt.cell (i := 0) rfl; have g1 := rbt.cell (i := 1) rfl; have g2 := rbt.cell (i := 2) rfl; have e0 := rt.cell (i := 0) rfl; have e1 := rt.cell (i := 1) rfl; have e2 := rt.cell (i := 2) rfl; have fb0 := rbt.free 0; have fb1 := rbt.free 1; have fb2 := rbt.free 2; have HOt := Lib.hid (HOl.out.trans0 ot); have Hrb := Lib.hid rbt; have Hst := Lib.hid hst; have Hwt := Lib.hid hwt
     rw [hwt] at g0 g1 g2 e0 e1 e2 fb0 fb1 fb2; clear hst hy hb rb rbt ot rt hwt Hb HOl hbt
     by_cases hnd : y.node = (i : Int)
     ·have hbe : (y.node == (i : Int)) = true := beq_iff_eq.2 hnd
      by_cases hb0 : b.node < 0
      ·skip
       have HE : Hid (Row (((wt.setCell ⟨bx, 0, none⟩ (.int .i64 y.node)).setCell ⟨bx, 1, none⟩ (.int .i64 y.boot)).setCell ⟨bx, 2, none⟩ (.int .i64 y.seq)) bx 31 (idCells (((fs ++ [id]).take (j + 1)).foldl (bestR i) ⟨-1, 0, 0⟩))) := Lib.hid (by rw [Hst.out]; unfold bestR; rw [if_pos ⟨hnd, .inl hb0⟩]; exact (((Hrb.out).setCell 0 _).setCell 1 _).setCell 2 _); have HO2 : Hid (Only [bx] w (((wt.setCell ⟨bx, 0, none⟩ (.int .i64 y.node)).setCell ⟨bx, 1, none⟩ (.int .i64 y.boot)).setCell ⟨bx, 2, none⟩ (.int .i64 y.seq))) := Lib.hid ((((HOt.out).trans (Only.setCell _ ⟨bx, 0, none⟩ _) (fun i hi _ => hi)).trans (Only.setCell _ ⟨bx, 1, none⟩ _) (fun i hi _ => hi)).trans (Only.setCell _ ⟨bx, 2, none⟩ _) (fun i hi _ => hi))
       rw [Hwt.out] at HE HO2; clear hnd hle Hrb HOt Hst; go_wp2_with fail; refine ⟨⟨j + 1, by go_num, by omega, HE, HO2⟩, ?_⟩; show n + 1 - ((j : Int) + 1).toNat < n + 1 - ((j : Int)).toNat; omega
      ·skip
       have hb1 : decide (b.node < 0) = false := decide_eq_false hb0; have Hnd := Lib.hid hnd; clear hnd; go_wp2_with fail; rw [← Hwt.out]; (with_reducible refine hle.mono ?_); clear hle e0 e1 e2 g0 g1 g2 fb0 fb1 fb2 d0 d1 d2; rintro e wz ⟨rfl, oz⟩; have rz := Hrb.out.only0 oz; have g0 := rz.cell (i := 0) rfl; have g1 := rz.cell (i := 1) rfl; have g2 := rz.cell (i := 2) rfl; have fb0 := rz.free 0; have fb1 := rz.free 1; have fb2 := rz.free 2; have rt := (show Row wt wr.heap.size 31 [.int .i64 y.node, .int .i64 y.boot, .int .i64 y.seq] by rw [Hwt.out]; exact Row.newOf _ _ _ _ rfl).only0 oz; have e0 := rt.cell (i := 0) rfl
       have e1 := rt.cell (i := 1) rfl; have e2 := rt.cell (i := 2) rfl
       by_cases hll : ltI b y
       ·rw [decide_eq_true hll]; have HE : Hid (Row (((wz.setCell ⟨bx, 0, none⟩ (.int .i64 y.node)).setCell ⟨bx, 1, none⟩ (.int .i64 y.boot)).setCell ⟨bx, 2, none⟩ (.int .i64 y.seq)) bx 31 (idCells (((fs ++ [id]).take (j + 1)).foldl (bestR i) ⟨-1, 0, 0⟩))) := Lib.hid (by rw [Hst.out]; unfold bestR; rw [if_pos ⟨Hnd.out, .inr hll⟩]; exact (((rz).setCell 0 _).setCell 1 _).setCell 2 _); have HO2 : Hid (Only [bx] w (((wz.setCell ⟨bx, 0, none⟩ (.int .i64 y.node)).setCell ⟨bx, 1, none⟩ (.int .i64 y.boot)).setCell ⟨bx, 2, none⟩ (.int .i64 y.seq))) := Lib.hid ((((HOt.out.trans0 oz).trans (Only.setCell _ ⟨bx, 0, none⟩ _) (fun i hi _ => hi)).trans (Only.setCell _ ⟨bx, 1, none⟩ _) (fun i hi _ => hi)).trans (Only.setCell _ ⟨bx, 2, none⟩ _) (fun i hi _ => hi))
        clear hll rz rt oz Hrb HOt Hst hb0; go_wp2_with fail; refine ⟨⟨j + 1, by go_num, by omega, HE, HO2⟩, ?_⟩; show n + 1 - ((j : Int) + 1).toNat < n + 1 - ((j : Int)).toNat; omega
       ·rw [decide_eq_false hll]; have HE : Hid (Row wz bx 31 (idCells (((fs ++ [id]).take (j + 1)).foldl (bestR i) ⟨-1, 0, 0⟩))) := Lib.hid (by rw [Hst.out]; unfold bestR; rw [if_neg (fun hh => hh.2.elim (fun h0 => by omega) hll)]; exact rz); have HO2 : Hid (Only [bx] w wz) := Lib.hid (HOt.out.trans0 oz); clear hll rz rt oz Hrb HOt Hst hb0; go_wp2_with fail; refine ⟨⟨j + 1, by go_num, by omega, HE, HO2⟩, ?_⟩; show n + 1 - ((j : Int) + 1).toNat < n + 1 - ((j : Int)).toNat; omega
     ·have hbe : (y.node == (i : Int)) = false := beq_eq_false_iff_ne.2 hnd; have HE : Hid (Row wt bx 31 (idCells (((fs ++ [id]).take (j + 1)).foldl (bestR i) ⟨-1, 0, 0⟩))) := Lib.hid (by rw [Hst.out]; unfold bestR; rw [if_neg (fun h => hnd h.1)]; exact Hrb.out); have HO2 : Hid (Only [bx] w wt) := Lib.hid (HOt.out); clear hnd hle Hrb HOt Hst; go_wp2_with fail; rw [← Hwt.out]; refine ⟨⟨j + 1, by go_num, by omega, HE, HO2⟩, ?_⟩; show n + 1 - ((j : Int) + 1).toNat < n + 1 - ((j : Int)).toNat; omega
    ·obtain rfl : j = n + 1 := (by omega); obtain ⟨b, hb⟩ : ∃ b, (fs ++ [id]).foldl (bestR i) ⟨-1, 0, 0⟩ = b := ⟨_, rfl⟩; have rb := Hb.out; rw [List.take_of_length_le (by rw [Hll.out]; exact Nat.le_refl _), hb] at rb; have hst : floorsR fs id (i + 1) = floorsR fs id i ++ (if 0 ≤ b.node then [b] else []) := by rw [floorsR_succ]; unfold floorRs; rw [hb]
     have hIr : OutK idCells 31 3 w1 wr q m k (floorsR fs id i) := HI6.out.keepS HOl.out (fun z hz hc => by obtain rfl := List.mem_singleton.1 hz; exact Hbq.out hc) (fun z hz => by
      obtain rfl := List.mem_singleton.1 hz; have := Hb0.out
      omega)
     replace rb : Row wr bx 31 [.int .i64 b.node, .int .i64 b.boot, .int .i64 b.seq] := rb; have g0 := rb.cell (i := 0) rfl; have g1 := rb.cell (i := 1) rfl; have g2 := rb.cell (i := 2) rfl
     by_cases hb0 : 0 ≤ b.node
     ·rw [if_pos hb0] at hst; obtain ⟨q2, k2, w7, Hap2, hO2, -, -⟩ := hIr.push (P := Try.prog) (t := 23) Try.underlying23 Try.infoId rfl (by omega) (by omega) idCells_len idCells_one b (by have := Hm.out; omega); have HE : Hid (OutK idCells 31 3 w1 w7 q2 (m + 1) k2 (floorsR fs id (i + 1))) := Lib.hid (by rw [hst]; exact hO2); unfold idCells at Hap2; clear hst hIr rb hb hO2 HI6 Hb HOl
      go_wp2_with (first | (at_builtin; refine wpl_append (s := .tmp 46) (x := .tmp 48) rfl rfl rfl rfl Hap2.out ?_))
      refine ⟨⟨i + 1, m + 1, q2, k2, rfl, by go_num, by omega, HE⟩, ?_⟩; show 16 - ((i : Int) + 1).toNat < 16 - ((i : Int)).toNat; omega
     ·rw [if_neg hb0, List.append_nil] at hst; have HE : Hid (OutK idCells 31 3 w1 wr q m k (floorsR fs id (i + 1))) := Lib.hid (by rw [hst]; exact hIr); have hb1 : decide (0 ≤ b.node) = false := decide_eq_false hb0; clear hst hIr rb hb HI6 Hb HOl; go_wp2_with fail; refine ⟨⟨i + 1, m, q, k, rfl, by go_num, by omega, HE⟩, ?_⟩; show 16 - ((i : Int) + 1).toNat < 16 - ((i : Int)).toNat; omega
  ·obtain rfl : i = 16 := (by omega); have HE := HI; clear HI; go_wp2_with fail
   go_ret
   exact ⟨_, _, _, rfl, HE.out.base HO.out⟩
end Go.Proofs.Ytfeglnpmpgipiaa
end
section
set_option linter.unusedVariables false
set_option maxRecDepth 100000
namespace Go.Proofs.Ytfeglnpmpgipiaa
open Go.RowKit
set_option maxHeartbeats 16000000 in
theorem rising_any (p : Option Addr) (n c : Nat) (ids : List Cid) (w0 : World) (hn : ids.length = n) (hnb : n ≤ 9007199254740992) (hx : Rd w0 p (ids.flatMap idCells)) :
  Calls Try.prog 7 #[.slice p n c] w0 fun e w' => ∃ q m k, e = .returned (.slice q m k) ∧ (∃ ys, OutK idCells 31 3 w0 w' q m k ys) ∧ m ≤ 401 := by
 obtain ⟨w1, hw1⟩ : ∃ w1, w1 = w0.alloc (.cells #[] 31) := ⟨_, rfl⟩; have HI0 : Hid (∃ ys, OutK idCells 31 3 w0 w1 (some ⟨w0.heap.size, 0, none⟩) 0 0 ys) := Lib.hid ⟨[], OutK.start (Only.refl _ _) hw1⟩; have Hw := Lib.hid hw1; have Hn := Lib.hid hn; have Hx := Lib.hid hx; clear hn hx hw1
 go_enter Try.func7, Try.ntmps7
 go_wp2_with fail; rw [← Hw.out]; clear Hw
 go_loopw [3, 10] (fun b a wl => ∃ (i m : Nat) (q : Option Addr) (k : Nat), b = .slice q m k ∧ a = .int .i64 (i : Int) ∧ i ≤ n ∧ m ≤ i ∧ m ≤ 401 ∧ Hid (∃ ys, OutK idCells 31 3 w0 wl q m k ys)) (fun _ a _ => n - (intOf a).toNat)
 case atStart => exact ⟨0, 0, _, 0, rfl, rfl, Nat.zero_le _, Nat.le_refl _, by omega, HI0⟩
 case round =>
  clear HI0; obtain ⟨i, m, q, k, rfl, rfl, hi, hmi, hm4, HI⟩ := hrel
  by_cases hlt : i < n
  ·obtain ⟨ys, hI⟩ := HI.out; obtain ⟨x, hx⟩ : ∃ x, ids[i]? = some x := ⟨_, List.getElem?_eq_getElem (by rw [Hn.out]; assumption)⟩; have hrd := Hx.out.only0 hI.2.2; have hne : ids.flatMap idCells ≠ [] := fun e' => (by have := flat_get idCells 3 idCells_len ids _ x 0 hx (by omega); rw [e'] at this; cases this); obtain ⟨bq, off, rfl, -⟩ := hrd.lt hne; have d0 := rd_elem idCells_len hrd hx (r := 0) rfl; have d1 := rd_elem idCells_len hrd hx (r := 1) rfl; have d2 := rd_elem idCells_len hrd hx (r := 2) rfl; rw [Addr.add_lit, ← Nat.add_assoc] at d0 d1 d2; rw [Nat.add_zero] at d0; clear hrd hne; obtain ⟨wt, hwt⟩ : ∃ wt, wt = wr.alloc (.cells #[.int .i64 x.node, .int .i64 x.boot, .int .i64 x.seq] 31) := ⟨_, rfl⟩
   have ot : Only [] wr wt := (by rw [hwt]; exact Only.alloc _ _); have rt : Row wt wr.heap.size 31 [.int .i64 x.node, .int .i64 x.boot, .int .i64 x.seq] := (by rw [hwt]; exact Row.newOf _ _ _ _ rfl); have hIt := hI.only0 ot; have hin := in22_any q m k ys x wt hI.2.1 (by omega) hIt.rd.1; unfold idV at hin; have e0 := rt.cell (i := 0) rfl; have e1 := rt.cell (i := 1) rfl; have e2 := rt.cell (i := 2) rfl; have HI1 := Lib.hid hIt; have Hrt := Lib.hid rt; have Hbq : Hid (wr.heap.size ∉ blk q) := Lib.hid (fun hc => by have := (hI.blk _ hc).2; omega); have Hwt := Lib.hid hwt; rw [hwt] at e0 e1 e2; clear hx ot rt hwt hIt hI HI
   by_cases h4 : (400 : Int) < (i : Int)
   ·have HE : Hid (∃ ys, OutK idCells 31 3 w0 wt q m k ys) := Lib.hid ⟨_, HI1.out⟩; clear hin; go_wp2_with fail; rw [← Hwt.out]; refine ⟨⟨i + 1, m, q, k, rfl, by go_num, by omega, by omega, by omega, HE⟩, ?_⟩; show n - ((i : Int) + 1).toNat < n - ((i : Int)).toNat; omega
   ·skip
    go_wp2_with fail; rw [← Hwt.out]; (with_reducible refine hin.mono ?_); clear hin d0 d1 d2 e0 e1 e2 Hwt; rintro e wi ⟨rfl, oi⟩; obtain ⟨bi, hbi⟩ : ∃ bi, decide (x ∈ ys) = bi := ⟨_, rfl⟩; rw [hbi]; clear hbi; have HIi := Lib.hid (HI1.out.only0 oi); have Hri := Lib.hid (Hrt.out.only0 oi); obtain ⟨bx, hbx⟩ : ∃ bx, wr.heap.size = bx := ⟨_, rfl⟩; rw [hbx] at Hri Hbq ⊢; clear oi HI1 Hrt hbx
    cases bi with
    | true =>
     have HE : Hid (∃ ys, OutK idCells 31 3 w0 wi q m k ys) := Lib.hid ⟨_, HIi.out⟩; go_wp2_with fail; refine ⟨⟨i + 1, m, q, k, rfl, by go_num, by omega, by omega, by omega, HE⟩, ?_⟩; show n - ((i : Int) + 1).toNat < n - ((i : Int)).toNat; omega
    | false =>
     go_wp2_with fail
     go_loopw [6] (fun a wl => ∃ (t : Nat), a = .int .i64 (t : Int) ∧ t ≤ m ∧ Hid (Only [] wi wl)) (fun a _ => (intOf a).toNat)
     case atStart => exact ⟨m, rfl, Nat.le_refl _, Lib.hid (Only.refl _ _)⟩
     case round =>
      obtain ⟨t, rfl, ht, HOl⟩ := hrel; have hIr := HIi.out.only0 HOl.out; have rx := Hri.out.only0 HOl.out
      by_cases ht0 : t = 0
      ·have Ht0 : Hid (((0 : Int) < (t : Int)) = False ∧ (0 < t) = False) := Lib.hid ⟨by simp; omega, by simp; omega⟩; clear ht0; go_wp2_with fail; refine wp_region_rg2 (Only []) [[(6, none)], [(24, some 0)], [(25, some 0)], [(26, some 0), (5, none)], [(26, some 1), (3, none)], [(26, some 2), (6, none)], [(26, some 3), (29, some 0)], [(26, some 4), (28, some 2), (30, some 0)], [(26, some 5), (31, some 0)], [(26, some 6), (27, some 5), (32, some 0)], [(26, some 7), (33, some 0)]] [(34, 0)] [none, none, none, none, none, none, none, none, none, none, none, none, none, none, none, none, none, none, none, none, none, none, none, none, some 24, some 25, some 26, some 27, some 28, some 29, some 30, some 31, some 32, some 33, some 34, none, none, none, none, none, none, none, none, none, none, none, none, none, none, none, none] (by kernel_rfl) rfl (by kernel_rfl) (fun _ => Only.refl _ _) (fun _ _ _ h k => h.trans0 k) (Only.drew _) (by kernel_rfl) ?_
       apply rg_ev
       ·intro a w hR hf; obtain ⟨e6, -⟩ := hf; replace e6 : a.tmps.getD 6 undef = _ := e6; refine rg_plain rfl fun K hK => ?_; go_simp; exact hK _ _ rfl (Only.refl _ _)
       apply rg_ev
       ·intro a w hR hf; obtain ⟨e24, -⟩ := hf; replace e24 : a.tmps.getD 24 undef = _ := e24; refine rg_plain rfl fun K hK => ?_; have h0 := Ht0.out.1; have h1 := Ht0.out.2; go_simp; exact hK _ _ rfl (Only.refl _ _)
       apply rg_ev
       ·intro a w hR hf; obtain ⟨e25, -⟩ := hf; replace e25 : a.tmps.getD 25 undef = _ := e25; refine rg_plain rfl fun K hK => ?_; go_simp; exact hK _ _ rfl (Only.refl _ _)
       apply rg_ev
       ·intro a w hR hf; obtain ⟨e26, e5, -⟩ := hf; replace e26 : a.tmps.getD 26 undef = _ := e26; replace e5 : a.tmps.getD 5 undef = _ := e5; exact rg_skip rfl rfl e26 rfl
       apply rg_ev
       ·intro a w hR hf; obtain ⟨e26, e3, -⟩ := hf; replace e26 : a.tmps.getD 26 undef = _ := e26; replace e3 : a.tmps.getD 3 undef = _ := e3; exact rg_skip rfl rfl e26 rfl
       apply rg_ev
       ·intro a w hR hf; obtain ⟨e26, e6, -⟩ := hf; replace e26 : a.tmps.getD 26 undef = _ := e26; replace e6 : a.tmps.getD 6 undef = _ := e6; exact rg_skip rfl rfl e26 rfl
       apply rg_ev
       ·intro a w hR hf; obtain ⟨e26, e29, -⟩ := hf; replace e26 : a.tmps.getD 26 undef = _ := e26; replace e29 : a.tmps.getD 29 undef = _ := e29; exact rg_skip rfl rfl e26 rfl
       apply rg_ev
       ·intro a w hR hf; obtain ⟨e26, e28, e30, -⟩ := hf; replace e26 : a.tmps.getD 26 undef = _ := e26; replace e28 : a.tmps.getD 28 undef = _ := e28; replace e30 : a.tmps.getD 30 undef = _ := e30; exact rg_skip rfl rfl e26 rfl
       apply rg_ev
       ·intro a w hR hf; obtain ⟨e26, e31, -⟩ := hf; replace e26 : a.tmps.getD 26 undef = _ := e26; replace e31 : a.tmps.getD 31 undef = _ := e31; exact rg_skip rfl rfl e26 rfl
       apply rg_ev
       ·intro a w hR hf; obtain ⟨e26, e27, e32, -⟩ := hf; replace e26 : a.tmps.getD 26 undef = _ := e26; replace e27 : a.tmps.getD 27 undef = _ := e27; replace e32 : a.tmps.getD 32 undef = _ := e32; exact rg_skip rfl rfl e26 rfl
       apply rg_ev
       ·intro a w hR hf; obtain ⟨e26, e33, -⟩ := hf; replace e26 : a.tmps.getD 26 undef = _ := e26; replace e33 : a.tmps.getD 33 undef = _ := e33; refine rg_plain rfl fun K hK => ?_; go_simp; exact hK _ _ rfl (Only.refl _ _)
       intro f7 w7 hR7 hf; dsimp only [mergeT]; obtain ⟨e34, -⟩ := hf; replace e34 : f7 34 = _ := e34; rw [e34]
       skip
       have hI7 := hIr.only0 hR7; have Hz := Lib.hid (rx.only0 hR7); have hv := hI7.rd; have Hrd : Hid (Rd w7 q (ys.flatMap idCells)) := Lib.hid hv.1; have Hlen := Lib.hid hI7.2.1; have Htm : Hid (t ≤ m) := Lib.hid ht; have Hkt : Hid ((t : Int) ≤ (k : Int)) := Lib.hid (by have := hv.2.2; omega); have Htmi : Hid ((t : Int) ≤ (m : Int)) := Lib.hid (by omega); have Hmk : Hid ((m : Int) ≤ (k : Int)) := Lib.hid (by have := hv.2.2; omega); have Hqt : Hid (q = none → t = 0 ∧ k = 0) := Lib.hid (fun h => by have := hv.2.1 h; omega); obtain ⟨r, hr⟩ : ∃ r, (if k = t then q else q.map fun x => x.add (t * 3)) = r := ⟨_, rfl⟩
       have Hcut := Lib.hid hr
       have Hra : Hid (r = none → m - t = 0 ∧ k - t = 0) := Lib.hid (fun h => by
        have hq0 : q = none := by
         rw [← hr] at h
         split at h
         ·exact h
         ·simpa using h
        have := hv.2.1 hq0
        omega)
       have Hsz : Hid (m + 1 ≤ 1001) := Lib.hid (by omega); have H07 := Lib.hid hI7.2.2; clear hI7 hIr rx hv hr hR7 HOl
       go_upto_region 9 with (fail)
       have hRr : ∀ x, Below w7.heap.size x x := fun x => Below.refl _ _; have hRt : ∀ x b e, Below w7.heap.size x b → Below w7.heap.size b e → Below w7.heap.size x e := fun x b e h h2 => h.trans h2; have hRd : Below w7.heap.size w7 w7.drew := (Only.drew _).below.mono (Nat.le_refl _)
       have hRs : ∀ j w, DirtR [(7, Below w7.heap.size), (11, Below w7.heap.size)] j w w := DirtR.refl (by
        intro x hx w; simp only [List.mem_cons, List.not_mem_nil, or_false] at hx
        rcases hx with rfl | rfl <;> exact Below.refl _ _)
       refine wp_region_rg5 (Below w7.heap.size) (DirtR [(7, Below w7.heap.size), (11, Below w7.heap.size)]) [[], [(3, none)], [(6, none)], [(38, some 1), (39, some 0)], [(37, some 3), (40, some 0)], [(5, none)], [(42, some 0)], [(41, some 2), (43, some 0)], [(3, none)], [(6, none)], [(45, some 1), (46, some 0)], [(44, some 3), (47, some 0)], [(48, some 0)]] [(3, 0)] [none, none, none, some 3, none, none, none, none, none, none, none, none, none, none, none, none, none, none, none, none, none, none, none, none, none, none, none, none, none, none, none, none, none, none, none, none, none, some 37, some 38, some 39, some 40, some 41, some 42, some 43, some 44, some 45, some 46, some 47, some 48, none, none] (by kernel_rfl) rfl (by kernel_rfl) hRr hRt hRs hRd (by kernel_rfl) ?_
       refine ⟨Sl0K 31 3 w7.heap.size, stands5_of Sl0K.stable (by intro x hx hk; simp only [List.mem_cons, List.not_mem_nil, or_false] at hx; rcases hx with rfl | rfl <;> exact Bool.noConfusion (hk.symm.trans (by kernel_rfl : _ = true))), fun a w hR hf => ?_, ?_⟩
       ·refine rg_plain rfl fun K hK => ?_; go_simp; refine hK _ _ ⟨_, rfl, OwnK.new (K := 3) (n := 0) [] hR.size rfl (by omega)⟩ ⟨(Only.alloc w _).below.mono hR.size, Only.alloc w _⟩
       apply rgu_ev
       ·intro a w hR hf; obtain ⟨e3, -⟩ := hf; replace e3 : a.tmps.getD 3 undef = _ := e3; refine rg_plain rfl fun K hK => ?_; go_simp; exact hK _ _ rfl ⟨hRr _, hRs _ _⟩
       apply rgu_ev
       ·intro a w hR hf; obtain ⟨e6, -⟩ := hf; replace e6 : a.tmps.getD 6 undef = _ := e6; refine rg_plain rfl fun K hK => ?_; go_simp; exact hK _ _ rfl ⟨hRr _, hRs _ _⟩
       apply rgu_ev
       ·intro a w hR hf; obtain ⟨e38, e39, -⟩ := hf; replace e38 : a.tmps.getD 38 undef = _ := e38; replace e39 : a.tmps.getD 39 undef = _ := e39; refine rg_plain rfl fun K hK => ?_; have h3 := Hkt.out; go_simp; exact hK _ _ rfl ⟨hRr _, hRs _ _⟩
       refine ⟨SlK idCells 31 3 w7.heap.size t (ys.take t), stands5_of SlK.stable (by intro x hx hk; simp only [List.mem_cons, List.not_mem_nil, or_false] at hx; rcases hx with rfl | rfl <;> exact Bool.noConfusion (hk.symm.trans (by kernel_rfl : _ = true))), fun a w hR hf => ?_, ?_⟩
       ·obtain ⟨e37, e40, -⟩ := hf; replace e37 : Sl0K 31 3 w7.heap.size (a.tmps.getD 37 undef) w := e37; replace e40 : a.tmps.getD 40 undef = _ := e40; refine rg_plain rfl fun K hK => ?_; obtain ⟨v', w', hra, hS, hA0⟩ := Sl0K.run (P := Try.prog) (t := 23) Try.underlying23 Try.infoId rfl (by omega) (by omega) idCells_len idCells_one (news := (ys.take t)) (r := t) e37 hR.size (rd_take idCells_len (Hrd.out.only0 (Only.ofBelow hR)) t) (by rw [List.length_take, Hlen.out]; have := Htm.out; omega) Hqt.out (by have := Hsz.out; omega); refine rg_append (s := .tmp 37) (x := .tmp 40) rfl rfl e40 hra ?_; exact hK _ _ hS ⟨hA0.below.mono hR.size, hA0⟩
       apply rgu_ev
       ·intro a w hR hf; obtain ⟨e5, -⟩ := hf; replace e5 : a.tmps.getD 5 undef = _ := e5; refine rg_plain rfl fun K hK => ?_; have hz := Hz.out.only0 (Only.ofBelow hR); have z0 := hz.cell (i := 0) rfl; have z1 := hz.cell (i := 1) rfl; have z2 := hz.cell (i := 2) rfl; go_simp; exact hK _ _ rfl ⟨hRr _, hRs _ _⟩
       refine ⟨SlK idCells 31 3 w7.heap.size 1 [x], stands5_of SlK.stable (by intro x hx hk; simp only [List.mem_cons, List.not_mem_nil, or_false] at hx; rcases hx with rfl | rfl <;> exact Bool.noConfusion (hk.symm.trans (by kernel_rfl : _ = true))), fun a w hR hf => ?_, ?_⟩
       ·obtain ⟨e42, -⟩ := hf; replace e42 : a.tmps.getD 42 undef = _ := e42; refine rg_plain rfl fun K hK => ?_; have e42' := e42; rw [Array.getD_eq_getD_getElem?] at e42'; go_simp; refine hK _ _ ⟨_, _, rfl, rfl, OwnK.new (K := 3) (n := 1) (idCells x) hR.size rfl (by omega)⟩ ⟨(Only.alloc w _).below.mono hR.size, Only.alloc w _⟩
       refine ⟨SlK idCells 31 3 w7.heap.size (t + 1) ((ys.take t) ++ [x]), stands5_of SlK.stable (by intro x hx hk; simp only [List.mem_cons, List.not_mem_nil, or_false] at hx; rcases hx with rfl | rfl <;> exact Bool.noConfusion (hk.symm.trans (by kernel_rfl : _ = true))), fun a w hR hf => ?_, ?_⟩
       ·obtain ⟨e41, e43, -⟩ := hf; replace e41 : SlK idCells 31 3 w7.heap.size t (ys.take t) (a.tmps.getD 41 undef) w := e41; replace e43 : SlK idCells 31 3 w7.heap.size 1 [x] (a.tmps.getD 43 undef) w := e43; refine rg_plain rfl fun K hK => ?_; obtain ⟨q2, c2, e43, -, hrd2, hq2⟩ := SlK.rd e43; obtain ⟨v', w', hra, hS, hB⟩ := SlK.run (P := Try.prog) (t := 23) Try.underlying23 Try.infoId rfl (by omega) (by omega) idCells_len idCells_one (news := [x]) (r := 1) e41 hR.size hrd2 rfl hq2 (by have := Hsz.out; omega); refine rg_append (s := .tmp 41) (x := .tmp 43) rfl rfl e43 hra ?_; exact hK _ _ hS ⟨hB, hB⟩
       apply rgu_ev
       ·intro a w hR hf; obtain ⟨e3, -⟩ := hf; replace e3 : a.tmps.getD 3 undef = _ := e3; refine rg_plain rfl fun K hK => ?_; go_simp; exact hK _ _ rfl ⟨hRr _, hRs _ _⟩
       apply rgu_ev
       ·intro a w hR hf; obtain ⟨e6, -⟩ := hf; replace e6 : a.tmps.getD 6 undef = _ := e6; refine rg_plain rfl fun K hK => ?_; go_simp; exact hK _ _ rfl ⟨hRr _, hRs _ _⟩
       apply rgu_ev
       ·intro a w hR hf; obtain ⟨e45, e46, -⟩ := hf; replace e45 : a.tmps.getD 45 undef = _ := e45; replace e46 : a.tmps.getD 46 undef = _ := e46; refine rg_plain rfl fun K hK => ?_; have h81 := Htmi.out; have h82 := Hmk.out; have h83 := Hcut.out; go_simp; exact hK _ _ rfl ⟨hRr _, hRs _ _⟩
       refine ⟨SlK idCells 31 3 w7.heap.size (t + 1 + (m - t)) ((ys.take t ++ [x]) ++ (ys.drop t)), stands5_of SlK.stable (by intro x hx hk; simp only [List.mem_cons, List.not_mem_nil, or_false] at hx; rcases hx with rfl | rfl <;> exact Bool.noConfusion (hk.symm.trans (by kernel_rfl : _ = true))), fun a w hR hf => ?_, ?_⟩
       ·obtain ⟨e44, e47, -⟩ := hf; replace e44 : SlK idCells 31 3 w7.heap.size (t + 1) ((ys.take t) ++ [x]) (a.tmps.getD 44 undef) w := e44; replace e47 : a.tmps.getD 47 undef = _ := e47; refine rg_plain rfl fun K hK => ?_; obtain ⟨v', w', hra, hS, hB⟩ := SlK.run (P := Try.prog) (t := 23) Try.underlying23 Try.infoId rfl (by omega) (by omega) idCells_len idCells_one (news := (ys.drop t)) (r := (m - t)) e44 hR.size (by rw [← Hcut.out]; exact rd_cut idCells_len (Hrd.out.only0 (Only.ofBelow hR)) t k (fun h => by rw [Hlen.out]; have := Hmk.out; omega)) (by rw [List.length_drop, Hlen.out]) Hra.out (by have := Hsz.out; omega)
        refine rg_append (s := .tmp 44) (x := .tmp 47) rfl rfl e47 hra ?_; exact hK _ _ hS ⟨hB, hB⟩
       refine ⟨SlK idCells 31 3 w7.heap.size (t + 1 + (m - t)) ((ys.take t ++ [x]) ++ (ys.drop t)), stands5_of SlK.stable (by intro x hx hk; simp only [List.mem_cons, List.not_mem_nil, or_false] at hx; rcases hx with rfl | rfl <;> exact Bool.noConfusion (hk.symm.trans (by kernel_rfl : _ = true))), fun a w hR hf => ?_, ?_⟩
       ·obtain ⟨e48, -⟩ := hf; replace e48 : SlK idCells 31 3 w7.heap.size (t + 1 + (m - t)) ((ys.take t ++ [x]) ++ (ys.drop t)) (a.tmps.getD 48 undef) w := e48; refine rg_plain rfl fun K hK => ?_; generalize hv48 : a.tmps.getD 48 undef = v48 at e48; go_simp; exact hK _ _ e48 ⟨hRr _, hRs _ _⟩
       intro f w hR hf; dsimp only [mergeT]; obtain ⟨e3, -⟩ := hf; replace e3 : SlK idCells 31 3 w7.heap.size (t + 1 + (m - t)) ((ys.take t ++ [x]) ++ (ys.drop t)) (f 3) w := e3; obtain ⟨q', c', h3, hl', hown'⟩ := e3; rw [h3]; have HE : Hid (∃ ys, OutK idCells 31 3 w0 w q' (t + 1 + (m - t)) c' ys) := Lib.hid ⟨_, hown'.weaken H07.out.size, hl', H07.out.trans0 (Only.ofBelow hR)⟩; clear hown' hl' h3 hR hRr hRt hRd hRs; go_wp2_with fail; refine ⟨⟨i + 1, t + 1 + (m - t), q', c', rfl, by go_num, by omega, by omega, by omega, HE⟩, ?_⟩; show n - ((i : Int) + 1).toNat < n - ((i : Int)).toNat; omega
      ·obtain ⟨y, hy⟩ : ∃ y, ys[t - 1]? = some y := ⟨_, List.getElem?_eq_getElem (by rw [hIr.2.1]; omega)⟩; obtain ⟨g, hg, -, -⟩ := hIr.1.at (by omega); have hrd := hIr.rd.1; have hqg := hg; subst hqg; have d0 := rd_elem idCells_len hrd hy (r := 0) rfl; have d1 := rd_elem idCells_len hrd hy (r := 1) rfl; have d2 := rd_elem idCells_len hrd hy (r := 2) rfl; rw [Addr.add_lit, Nat.zero_add] at d0 d1 d2; rw [Nat.add_zero] at d0; have Hd := Lib.hid (And.intro d0 (And.intro d1 d2)); have Hrx := Lib.hid rx; have Ht1 : Hid (wrap64 ((t : Int) - 1) = ((t - 1 : Nat) : Int) ∧ IntKind.i64.wrap ((t : Int) - 1) = ((t - 1 : Nat) : Int) ∧ t - 1 < m ∧ (0 : Int) < (t : Int)) := Lib.hid ⟨by rw [IntWalk.wrap64_in _ (by omega)]; omega, by rw [IntWalk.i64_in _ (by omega)]; omega, by omega, by omega⟩
       obtain ⟨bl, hbl⟩ : ∃ bl, decide (ltI x y) = bl := ⟨_, rfl⟩; have Hbl := Lib.hid hbl; clear hg hrd hy d0 d1 d2 hbl; have htp : (0 : Int) < (t : Int) := (by omega); go_wp2_with fail; refine wp_region_rg2 (Only []) [[(6, none)], [(24, some 0)], [(25, some 0)], [(26, some 0), (5, none)], [(26, some 1), (3, none)], [(26, some 2), (6, none)], [(26, some 3), (29, some 0)], [(26, some 4), (28, some 2), (30, some 0)], [(26, some 5), (31, some 0)], [(26, some 6), (27, some 5), (32, some 0)], [(26, some 7), (33, some 0)]] [(34, 0)] [none, none, none, none, none, none, none, none, none, none, none, none, none, none, none, none, none, none, none, none, none, none, none, none, some 24, some 25, some 26, some 27, some 28, some 29, some 30, some 31, some 32, some 33, some 34, none, none, none, none, none, none, none, none, none, none, none, none, none, none, none, none] (by kernel_rfl) rfl (by kernel_rfl) (fun _ => Only.refl _ _) (fun _ _ _ h k => h.trans0 k) (Only.drew _) (by kernel_rfl) ?_
       apply rg_ev
       ·intro a w hR hf; obtain ⟨e6, -⟩ := hf; replace e6 : a.tmps.getD 6 undef = _ := e6; refine rg_plain rfl fun K hK => ?_; go_simp; exact hK _ _ rfl (Only.refl _ _)
       apply rg_ev
       ·intro a w hR hf; obtain ⟨e24, -⟩ := hf; replace e24 : a.tmps.getD 24 undef = _ := e24; refine rg_plain rfl fun K hK => ?_; have h0 := Ht1.out.2.2.2; have h1 : 0 < t := (by omega); go_simp; exact hK _ _ rfl (Only.refl _ _)
       apply rg_ev
       ·intro a w hR hf; obtain ⟨e25, -⟩ := hf; replace e25 : a.tmps.getD 25 undef = _ := e25; refine rg_plain rfl fun K hK => ?_; go_simp; exact hK _ _ rfl (Only.refl _ _)
       apply rg_ev
       ·intro a w hR hf; obtain ⟨e26, e5, -⟩ := hf; replace e26 : a.tmps.getD 26 undef = _ := e26; replace e5 : a.tmps.getD 5 undef = _ := e5; refine rg_want rfl rfl e26 fun K hK => ?_; clear e26; have hz := Hrx.out.only0 hR; have z0 := hz.cell (i := 0) rfl; have z1 := hz.cell (i := 1) rfl; have z2 := hz.cell (i := 2) rfl; go_simp; exact hK _ _ rfl (Only.refl _ _)
       apply rg_ev
       ·intro a w hR hf; obtain ⟨e26, e3, -⟩ := hf; replace e26 : a.tmps.getD 26 undef = _ := e26; replace e3 : a.tmps.getD 3 undef = _ := e3; refine rg_want rfl rfl e26 fun K hK => ?_; clear e26; go_simp; exact hK _ _ rfl (Only.refl _ _)
       apply rg_ev
       ·intro a w hR hf; obtain ⟨e26, e6, -⟩ := hf; replace e26 : a.tmps.getD 26 undef = _ := e26; replace e6 : a.tmps.getD 6 undef = _ := e6; refine rg_want rfl rfl e26 fun K hK => ?_; clear e26; go_simp; exact hK _ _ rfl (Only.refl _ _)
       apply rg_ev
       ·intro a w hR hf; obtain ⟨e26, e29, -⟩ := hf; replace e26 : a.tmps.getD 26 undef = _ := e26; replace e29 : a.tmps.getD 29 undef = _ := e29; refine rg_want rfl rfl e26 fun K hK => ?_; clear e26; have h6 := Ht1.out.2.1; go_simp; exact hK _ _ rfl (Only.refl _ _)
       apply rg_ev
       ·intro a w hR hf; obtain ⟨e26, e28, e30, -⟩ := hf; replace e26 : a.tmps.getD 26 undef = _ := e26; replace e28 : a.tmps.getD 28 undef = _ := e28; replace e30 : a.tmps.getD 30 undef = _ := e30; refine rg_want rfl rfl e26 fun K hK => ?_; clear e26; have h7 := Ht1.out.2.2.1; go_simp; exact hK _ _ rfl (Only.refl _ _)
       apply rg_ev
       ·intro a w hR hf; obtain ⟨e26, e31, -⟩ := hf; replace e26 : a.tmps.getD 26 undef = _ := e26; replace e31 : a.tmps.getD 31 undef = _ := e31; refine rg_want rfl rfl e26 fun K hK => ?_; clear e26; have h80 := hR.cell Hd.out.1 (by simp); have h81 := hR.cell Hd.out.2.1 (by simp); have h82 := hR.cell Hd.out.2.2 (by simp); go_simp; exact hK _ _ rfl (Only.refl _ _)
       refine ⟨EV (.bool bl), EV.stable _, fun a w hR hf => ?_, ?_⟩
       ·obtain ⟨e26, e27, e32, -⟩ := hf; replace e26 : a.tmps.getD 26 undef = _ := e26; replace e27 : a.tmps.getD 27 undef = _ := e27; replace e32 : a.tmps.getD 32 undef = _ := e32; refine rg_want rfl rfl e26 fun K hK => ?_; clear e26; go_simp; have hle := less_any x y w; rw [Hbl.out] at hle; unfold idV at hle; (with_reducible refine hle.mono ?_); rintro e w' ⟨rfl, o⟩; exact hK _ _ rfl o
       refine ⟨EV (.bool bl), EV.stable _, fun a w hR hf => ?_, ?_⟩
       ·obtain ⟨e26, e33, -⟩ := hf; replace e26 : a.tmps.getD 26 undef = _ := e26; replace e33 : EV (.bool bl) (a.tmps.getD 33 undef) w := e33; refine rg_plain rfl fun K hK => ?_; have e33q : a.tmps.getD 33 undef = .bool bl := e33; have e33r := e33q; rw [Array.getD_eq_getD_getElem?] at e33r; go_simp; exact hK _ _ rfl (Only.refl _ _)
       intro f7 w7 hR7 hf; dsimp only [mergeT]; obtain ⟨e34, -⟩ := hf; replace e34 : EV (.bool bl) (f7 34) w7 := e34; have e34q : f7 34 = .bool bl := e34; rw [e34q]; clear e34 e34q
       cases bl with
       | true =>
        have HO2 := Lib.hid (HOl.out.trans0 hR7); clear hIr rx hR7 HOl; go_wp2_with fail; refine ⟨⟨t - 1, congrArg (Value.int .i64) (by omega), by omega, HO2⟩, ?_⟩; show ((t : Int) - 1).toNat < ((t : Int)).toNat; omega
       | false =>
        generalize hqe : (some (⟨g, 0, none⟩ : Addr)) = q at HIi Hbq hIr ⊢; have hI7 := hIr.only0 hR7; have Hz := Lib.hid (rx.only0 hR7); have hv := hI7.rd; have Hrd : Hid (Rd w7 q (ys.flatMap idCells)) := Lib.hid hv.1; have Hlen := Lib.hid hI7.2.1; have Htm : Hid (t ≤ m) := Lib.hid ht; have Hkt : Hid ((t : Int) ≤ (k : Int)) := Lib.hid (by have := hv.2.2; omega); have Htmi : Hid ((t : Int) ≤ (m : Int)) := Lib.hid (by omega); have Hmk : Hid ((m : Int) ≤ (k : Int)) := Lib.hid (by have := hv.2.2; omega); have Hqt : Hid (q = none → t = 0 ∧ k = 0) := Lib.hid (fun h => by have := hv.2.1 h; omega); obtain ⟨r, hr⟩ : ∃ r, (if k = t then q else q.map fun x => x.add (t * 3)) = r := ⟨_, rfl⟩
        have Hcut := Lib.hid hr
        have Hra : Hid (r = none → m - t = 0 ∧ k - t = 0) := Lib.hid (fun h => by
         have hq0 : q = none := by
          rw [← hr] at h
          split at h
          ·exact h
          ·simpa using h
         have := hv.2.1 hq0
         omega)
        have Hsz : Hid (m + 1 ≤ 1001) := Lib.hid (by omega); have H07 := Lib.hid hI7.2.2; clear hI7 hIr rx hv hr hR7 HOl
        go_upto_region 9 with (fail)
        have hRr : ∀ x, Below w7.heap.size x x := fun x => Below.refl _ _; have hRt : ∀ x b e, Below w7.heap.size x b → Below w7.heap.size b e → Below w7.heap.size x e := fun x b e h h2 => h.trans h2; have hRd : Below w7.heap.size w7 w7.drew := (Only.drew _).below.mono (Nat.le_refl _)
        have hRs : ∀ j w, DirtR [(7, Below w7.heap.size), (11, Below w7.heap.size)] j w w := DirtR.refl (by
         intro x hx w; simp only [List.mem_cons, List.not_mem_nil, or_false] at hx
         rcases hx with rfl | rfl <;> exact Below.refl _ _)
        refine wp_region_rg5 (Below w7.heap.size) (DirtR [(7, Below w7.heap.size), (11, Below w7.heap.size)]) [[], [(3, none)], [(6, none)], [(38, some 1), (39, some 0)], [(37, some 3), (40, some 0)], [(5, none)], [(42, some 0)], [(41, some 2), (43, some 0)], [(3, none)], [(6, none)], [(45, some 1), (46, some 0)], [(44, some 3), (47, some 0)], [(48, some 0)]] [(3, 0)] [none, none, none, some 3, none, none, none, none, none, none, none, none, none, none, none, none, none, none, none, none, none, none, none, none, none, none, none, none, none, none, none, none, none, none, none, none, none, some 37, some 38, some 39, some 40, some 41, some 42, some 43, some 44, some 45, some 46, some 47, some 48, none, none] (by kernel_rfl) rfl (by kernel_rfl) hRr hRt hRs hRd (by kernel_rfl) ?_
        refine ⟨Sl0K 31 3 w7.heap.size, stands5_of Sl0K.stable (by intro x hx hk; simp only [List.mem_cons, List.not_mem_nil, or_false] at hx; rcases hx with rfl | rfl <;> exact Bool.noConfusion (hk.symm.trans (by kernel_rfl : _ = true))), fun a w hR hf => ?_, ?_⟩
        ·refine rg_plain rfl fun K hK => ?_; go_simp; refine hK _ _ ⟨_, rfl, OwnK.new (K := 3) (n := 0) [] hR.size rfl (by omega)⟩ ⟨(Only.alloc w _).below.mono hR.size, Only.alloc w _⟩
        apply rgu_ev
        ·intro a w hR hf; obtain ⟨e3, -⟩ := hf; replace e3 : a.tmps.getD 3 undef = _ := e3; refine rg_plain rfl fun K hK => ?_; go_simp; exact hK _ _ rfl ⟨hRr _, hRs _ _⟩
        apply rgu_ev
        ·intro a w hR hf; obtain ⟨e6, -⟩ := hf; replace e6 : a.tmps.getD 6 undef = _ := e6; refine rg_plain rfl fun K hK => ?_; go_simp; exact hK _ _ rfl ⟨hRr _, hRs _ _⟩
        apply rgu_ev
        ·intro a w hR hf; obtain ⟨e38, e39, -⟩ := hf; replace e38 : a.tmps.getD 38 undef = _ := e38; replace e39 : a.tmps.getD 39 undef = _ := e39; refine rg_plain rfl fun K hK => ?_; have h3 := Hkt.out; go_simp; exact hK _ _ rfl ⟨hRr _, hRs _ _⟩
        refine ⟨SlK idCells 31 3 w7.heap.size t (ys.take t), stands5_of SlK.stable (by intro x hx hk; simp only [List.mem_cons, List.not_mem_nil, or_false] at hx; rcases hx with rfl | rfl <;> exact Bool.noConfusion (hk.symm.trans (by kernel_rfl : _ = true))), fun a w hR hf => ?_, ?_⟩
        ·obtain ⟨e37, e40, -⟩ := hf; replace e37 : Sl0K 31 3 w7.heap.size (a.tmps.getD 37 undef) w := e37; replace e40 : a.tmps.getD 40 undef = _ := e40; refine rg_plain rfl fun K hK => ?_; obtain ⟨v', w', hra, hS, hA0⟩ := Sl0K.run (P := Try.prog) (t := 23) Try.underlying23 Try.infoId rfl (by omega) (by omega) idCells_len idCells_one (news := (ys.take t)) (r := t) e37 hR.size (rd_take idCells_len (Hrd.out.only0 (Only.ofBelow hR)) t) (by rw [List.length_take, Hlen.out]; have := Htm.out; omega) Hqt.out (by have := Hsz.out; omega); refine rg_append (s := .tmp 37) (x := .tmp 40) rfl rfl e40 hra ?_; exact hK _ _ hS ⟨hA0.below.mono hR.size, hA0⟩
        apply rgu_ev
        ·intro a w hR hf; obtain ⟨e5, -⟩ := hf; replace e5 : a.tmps.getD 5 undef = _ := e5; refine rg_plain rfl fun K hK => ?_; have hz := Hz.out.only0 (Only.ofBelow hR); have z0 := hz.cell (i := 0) rfl; have z1 := hz.cell (i := 1) rfl; have z2 := hz.cell (i := 2) rfl; go_simp; exact hK _ _ rfl ⟨hRr _, hRs _ _⟩
        refine ⟨SlK idCells 31 3 w7.heap.size 1 [x], stands5_of SlK.stable (by intro x hx hk; simp only [List.mem_cons, List.not_mem_nil, or_false] at hx; rcases hx with rfl | rfl <;> exact Bool.noConfusion (hk.symm.trans (by kernel_rfl : _ = true))), fun a w hR hf => ?_, ?_⟩
        ·obtain ⟨e42, -⟩ := hf; replace e42 : a.tmps.getD 42 undef = _ := e42; refine rg_plain rfl fun K hK => ?_; have e42' := e42; rw [Array.getD_eq_getD_getElem?] at e42'; go_simp; refine hK _ _ ⟨_, _, rfl, rfl, OwnK.new (K := 3) (n := 1) (idCells x) hR.size rfl (by omega)⟩ ⟨(Only.alloc w _).below.mono hR.size, Only.alloc w _⟩
        refine ⟨SlK idCells 31 3 w7.heap.size (t + 1) ((ys.take t) ++ [x]), stands5_of SlK.stable (by intro x hx hk; simp only [List.mem_cons, List.not_mem_nil, or_false] at hx; rcases hx with rfl | rfl <;> exact Bool.noConfusion (hk.symm.trans (by kernel_rfl : _ = true))), fun a w hR hf => ?_, ?_⟩
        ·obtain ⟨e41, e43, -⟩ := hf; replace e41 : SlK idCells 31 3 w7.heap.size t (ys.take t) (a.tmps.getD 41 undef) w := e41; replace e43 : SlK idCells 31 3 w7.heap.size 1 [x] (a.tmps.getD 43 undef) w := e43; refine rg_plain rfl fun K hK => ?_; obtain ⟨q2, c2, e43, -, hrd2, hq2⟩ := SlK.rd e43; obtain ⟨v', w', hra, hS, hB⟩ := SlK.run (P := Try.prog) (t := 23) Try.underlying23 Try.infoId rfl (by omega) (by omega) idCells_len idCells_one (news := [x]) (r := 1) e41 hR.size hrd2 rfl hq2 (by have := Hsz.out; omega); refine rg_append (s := .tmp 41) (x := .tmp 43) rfl rfl e43 hra ?_; exact hK _ _ hS ⟨hB, hB⟩
        apply rgu_ev
        ·intro a w hR hf; obtain ⟨e3, -⟩ := hf; replace e3 : a.tmps.getD 3 undef = _ := e3; refine rg_plain rfl fun K hK => ?_; go_simp; exact hK _ _ rfl ⟨hRr _, hRs _ _⟩
        apply rgu_ev
        ·intro a w hR hf; obtain ⟨e6, -⟩ := hf; replace e6 : a.tmps.getD 6 undef = _ := e6; refine rg_plain rfl fun K hK => ?_; go_simp; exact hK _ _ rfl ⟨hRr _, hRs _ _⟩
        apply rgu_ev
        ·intro a w hR hf; obtain ⟨e45, e46, -⟩ := hf; replace e45 : a.tmps.getD 45 undef = _ := e45; replace e46 : a.tmps.getD 46 undef = _ := e46; refine rg_plain rfl fun K hK => ?_; have h81 := Htmi.out; have h82 := Hmk.out; have h83 := Hcut.out; go_simp; exact hK _ _ rfl ⟨hRr _, hRs _ _⟩
        refine ⟨SlK idCells 31 3 w7.heap.size (t + 1 + (m - t)) ((ys.take t ++ [x]) ++ (ys.drop t)), stands5_of SlK.stable (by intro x hx hk; simp only [List.mem_cons, List.not_mem_nil, or_false] at hx; rcases hx with rfl | rfl <;> exact Bool.noConfusion (hk.symm.trans (by kernel_rfl : _ = true))), fun a w hR hf => ?_, ?_⟩
        ·obtain ⟨e44, e47, -⟩ := hf; replace e44 : SlK idCells 31 3 w7.heap.size (t + 1) ((ys.take t) ++ [x]) (a.tmps.getD 44 undef) w := e44; replace e47 : a.tmps.getD 47 undef = _ := e47; refine rg_plain rfl fun K hK => ?_; obtain ⟨v', w', hra, hS, hB⟩ := SlK.run (P := Try.prog) (t := 23) Try.underlying23 Try.infoId rfl (by omega) (by omega) idCells_len idCells_one (news := (ys.drop t)) (r := (m - t)) e44 hR.size (by rw [← Hcut.out]; exact rd_cut idCells_len (Hrd.out.only0 (Only.ofBelow hR)) t k (fun h => by rw [Hlen.out]; have := Hmk.out; omega)) (by rw [List.length_drop, Hlen.out]) Hra.out (by have := Hsz.out; omega)
         refine rg_append (s := .tmp 44) (x := .tmp 47) rfl rfl e47 hra ?_; exact hK _ _ hS ⟨hB, hB⟩
        refine ⟨SlK idCells 31 3 w7.heap.size (t + 1 + (m - t)) ((ys.take t ++ [x]) ++ (ys.drop t)), stands5_of SlK.stable (by intro x hx hk; simp only [List.mem_cons, List.not_mem_nil, or_false] at hx; rcases hx with rfl | rfl <;> exact Bool.noConfusion (hk.symm.trans (by kernel_rfl : _ = true))), fun a w hR hf => ?_, ?_⟩
        ·obtain ⟨e48, -⟩ := hf; replace e48 : SlK idCells 31 3 w7.heap.size (t + 1 + (m - t)) ((ys.take t ++ [x]) ++ (ys.drop t)) (a.tmps.getD 48 undef) w := e48; refine rg_plain rfl fun K hK => ?_; generalize hv48 : a.tmps.getD 48 undef = v48 at e48; go_simp; exact hK _ _ e48 ⟨hRr _, hRs _ _⟩
        intro f w hR hf; dsimp only [mergeT]; obtain ⟨e3, -⟩ := hf; replace e3 : SlK idCells 31 3 w7.heap.size (t + 1 + (m - t)) ((ys.take t ++ [x]) ++ (ys.drop t)) (f 3) w := e3; obtain ⟨q', c', h3, hl', hown'⟩ := e3; rw [h3]; have HE : Hid (∃ ys, OutK idCells 31 3 w0 w q' (t + 1 + (m - t)) c' ys) := Lib.hid ⟨_, hown'.weaken H07.out.size, hl', H07.out.trans0 (Only.ofBelow hR)⟩; clear hown' hl' h3 hR hRr hRt hRd hRs; go_wp2_with fail; refine ⟨⟨i + 1, t + 1 + (m - t), q', c', rfl, by go_num, by omega, by omega, by omega, HE⟩, ?_⟩; show n - ((i : Int) + 1).toNat < n - ((i : Int)).toNat; omega
  ·obtain rfl : i = n := (by omega); go_wp2_with fail
   go_ret
   exact ⟨_, _, _, rfl, HI.out, hm4⟩
end Go.Proofs.Ytfeglnpmpgipiaa
end
section
set_option linter.unusedVariables false
set_option maxRecDepth 100000
namespace Go.Proofs.Ytfeglnpmpgipiaa
open Go.RowKit Go.Shelf
attribute [local go_sem] Oper.semAt_some
def mark (d : Nat) : Deferred := { target := .collected d, args := #[] }
theorem mretL {fn : Func} {tmps : Array Value} {R : Ending → World → Prop} : ∀ (ds : List Nat) (w : World), ds.Nodup → (∀ d ∈ ds, w.heap[d]? = some (.deferred (some []))) →
  (∀ w', Only ds w w' → ∃ v, (results fn tmps).run Try.prog w' = .ok v w' ∧ R (.returned v) w') → bodyPostM Fence.wide 9 Try.prog fn R .ret { tmps := tmps, defers := ds.map mark } w
 | [], w, _, _, h => h w (Only.refl _ _)
 | d :: ds, w, hn, hd, h => marks_take (hd d (by simp)) (mretL ds (w.putObj d (.deferred none)) (List.nodup_cons.1 hn).2
   (fun x hx => (World.putObj_heap_other (fun e => (List.nodup_cons.1 hn).1 (by first | rw [e]; exact hx | rw [← e]; exact hx))).trans (hd x (by simp [hx])))
   (fun w' ho => h w' (((Only.putObj w d (.deferred none)).mono (by simp)).trans ho (fun i hi _ => by simp [hi]))))
theorem roundIn_wide {P : Program} {m n l l' : Nat} {f : FuncId} {tmps : Array Value} {assign body : Code} {w : World} {R : Ending → World → Prop} (h : RoundIn Fence.wide m P l f tmps assign body w R) : RoundIn (Fence.wide.inRound l') n P l f tmps assign body w R :=
 ⟨trivial, fun c cs _ => h.2 c cs (room_wide _)⟩
def BlobsAt (w : World) (c1 : Nat) (L : LCat) : Prop := Row w c1 27 (lcCells L) ∧ CatOwn w 0 L
def blobsCap (c1 : Nat) (L : LCat) : List Nat := c1 :: L.fp
theorem BlobsAt.only {S : List Nat} {w w' : World} {c1 : Nat} {L : LCat} (h : BlobsAt w c1 L) (ho : Only S w w') (hS : ∀ x ∈ blobsCap c1 L, x ∉ S) : BlobsAt w' c1 L :=
 ⟨h.1.only ho (hS _ (by simp [blobsCap])), h.2.only ho (fun z hz => hS z (by simp [blobsCap, hz]))⟩
theorem BlobsAt.lt {w : World} {c1 : Nat} {L : LCat} (h : BlobsAt w c1 L) : ∀ x ∈ blobsCap c1 L, x < w.heap.size := fun x hx => by
 rcases List.mem_cons.1 hx with rfl | hx
 ·exact h.1.lt
 ·exact (h.2.lo x hx).2
def blobsF (c1 : Nat) : Value := .func (.func 30) #[] #[.pointer (some ⟨c1, 0, none⟩)]
set_option maxHeartbeats 4000000 in
theorem blobs_any (L : LCat) (w : World) (hA : CatAt w L) (hs : Small L) : Calls Try.prog 18 #[lcV L] w fun e w' => ∃ c1 L', e = .returned (blobsF c1) ∧ L'.cat = L.cat ∧ BlobsAt w' c1 L' ∧ Only [] w w' ∧ ∀ x ∈ blobsCap c1 L', w.heap.size ≤ x := by
 obtain ⟨w1, hw1⟩ : ∃ w1, w1 = w.alloc (.cells #[.slice L.pb L.bs.length L.cb, .slice L.pf L.fs.length L.cf] 27) := ⟨_, rfl⟩; have o1 : Only [] w w1 := (by rw [hw1]; exact Only.alloc _ _); have r1 : Row w1 w.heap.size 27 [.slice L.pb L.bs.length L.cb, .slice L.pf L.fs.length L.cf] := (by rw [hw1]; exact Row.newOf _ _ _ _ rfl); have hcp := copied_any L w1 (hA.only0 o1) hs; have c0 := r1.cell (i := 0) rfl; have c1 := r1.cell (i := 1) rfl; have hmf : ∀ (fn : Fn) (first cap : Array Value) (w : World), (Instr.makeFunc fn first cap).run Try.prog w = .ok (.func fn first cap) w := fun _ _ _ _ => rfl; rw [hw1] at c0 c1
 have Ho1 := Lib.hid o1; have Hr1 := Lib.hid r1; have Hw1 := Lib.hid hw1; unfold lcV at hcp ⊢; clear o1 r1 hw1 hA hs
 go_enter Try.func18, Try.ntmps18
 go_wp2_with fail; rw [← Hw1.out]; refine hcp.mono ?_; clear hcp c0 c1; rintro e w2 ⟨c, rfl, hc, own, o2⟩; have r2 := Hr1.out.only0 o2; have f2 := r2.free 0; have f3 := r2.free 1; have c0 := r2.cell (i := 0) rfl; have c1 := r2.cell (i := 1) rfl
 have rB : Row ((w2.setCell ⟨w.heap.size, 0, none⟩ (.slice c.pb c.bs.length c.cb)).setCell ⟨w.heap.size, 1, none⟩ (.slice c.pf c.fs.length c.cf)) w.heap.size 27 (lcCells c) := by
  simpa [lcCells] using (r2.setCell 0 (.slice c.pb c.bs.length c.cb)).setCell 1 (.slice c.pf c.fs.length c.cf)
 have oB : Only [w.heap.size] w2 ((w2.setCell ⟨w.heap.size, 0, none⟩ (.slice c.pb c.bs.length c.cb)).setCell ⟨w.heap.size, 1, none⟩ (.slice c.pf c.fs.length c.cf)) := (Only.setCell w2 ⟨w.heap.size, 0, none⟩ _).trans (Only.setCell _ ⟨w.heap.size, 1, none⟩ _) (fun i hi _ => hi); have hlt := Hr1.out.lt; have oN := (Ho1.out.trans0 o2).transN oB (by simp)
 have ownB := own.only oB (fun z hz hm => by
  obtain rfl := List.mem_singleton.1 hm
  have := (own.lo _ hz).1; omega)
 have hge : ∀ x ∈ blobsCap w.heap.size c, w.heap.size ≤ x := fun x hx => by
  rcases List.mem_cons.1 hx with rfl | hx
  ·exact Nat.le_refl _
  ·have := (own.lo _ hx).1; omega
 have HE := Lib.hid (And.intro rB (And.intro (ownB.weaken (Nat.zero_le _)) (And.intro oN hge))); clear rB oB oN ownB hge own o2 r2 hlt; go_wp2_with fail
 go_ret
 exact ⟨_, c, rfl, hc, ⟨HE.out.1, HE.out.2.1⟩, HE.out.2.2.1, HE.out.2.2.2⟩
structure BlobsI (W : World) (c1 : Nat) (L : LCat) (l : Nat) (p : Nat) (D ds : List Nat) (A : World) : Prop where
 hat : BlobsAt A c1 L
 box : Row A W.heap.size 72 [.func (.yield l) #[] #[]]
 hD : ∀ d ∈ D, d ∉ blobsCap c1 L ∧ d ≠ W.heap.size ∧ d ∉ ds ∧ d < A.heap.size
 nd : ds.Nodup
 hm : ∀ d ∈ ds, A.heap[d]? = some (.deferred (some [])) ∧ W.heap.size < d
 cap : ∀ x ∈ blobsCap c1 L, x < W.heap.size
 lt : ∀ x, x = W.heap.size ∨ x ∈ ds → x < p
 size : p ≤ A.heap.size
theorem BlobsI.pW {W : World} {c1 l p : Nat} {L : LCat} {D ds : List Nat} {A : World} (h : BlobsI W c1 L l p D ds A) : W.heap.size < p := h.lt _ (.inl rfl)
theorem BlobsI.raise {W : World} {c1 l p p' : Nat} {L : LCat} {D ds : List Nat} {A : World} (h : BlobsI W c1 L l p D ds A) (h1 : p ≤ p') (h2 : p' ≤ A.heap.size) : BlobsI W c1 L l p' D ds A :=
 ⟨h.hat, h.box, h.hD, h.nd, h.hm, h.cap, fun x hx => Nat.lt_of_lt_of_le (h.lt x hx) h1, h2⟩
theorem BlobsI.step {W : World} {c1 l p : Nat} {L : LCat} {D D' ds T : List Nat} {A B : World} (h : BlobsI W c1 L l p D ds A) (ho : Only T A B) (hT : ∀ t ∈ T, t ∈ D ∨ p ≤ t) (hD' : ∀ d ∈ D', (d ∈ D ∨ p ≤ d) ∧ d < B.heap.size) : BlobsI W c1 L l p D' ds B := by
 have hp := h.pW; refine ⟨h.hat.only ho (fun x hx hm => ?_), h.box.only ho (fun hm => ?_), fun d hd => ?_, h.nd, fun d hd => ⟨?_, (h.hm d hd).2⟩, h.cap, h.lt, Nat.le_trans h.size ho.size⟩
 ·have hc := h.cap x hx
  rcases hT x hm with h1 | h1
  ·exact (h.hD x h1).1 hx
  ·omega
 ·rcases hT _ hm with h1 | h1
  ·exact (h.hD _ h1).2.1 rfl
  ·omega
 ·obtain ⟨h1, h2⟩ := hD' d hd
  rcases h1 with h1 | h1
  ·exact ⟨(h.hD d h1).1, (h.hD d h1).2.1, (h.hD d h1).2.2.1, h2⟩
  ·exact ⟨fun hc => by have := h.cap d hc; omega, by omega, fun hc => by have := h.lt d (.inr hc); omega, h2⟩
 ·have hl := h.lt d (.inr hd); have hz := h.size
  exact (ho.block d (by omega) (fun hm => by
   rcases hT d hm with h1 | h1
   ·exact (h.hD d h1).2.2.1 hd
   ·omega)).trans (h.hm d hd).1
theorem BlobsI.push {W : World} {c1 l p : Nat} {L : LCat} {D ds : List Nat} {A : World} (h : BlobsI W c1 L l p D ds A) (hk : A.heap[p]? = some (.deferred (some []))) (hd : ∀ d ∈ D, d ≠ p) : BlobsI W c1 L l (p + 1) D (p :: ds) A := by
 have hp := h.pW; refine ⟨h.hat, h.box, fun d hm => ⟨(h.hD d hm).1, (h.hD d hm).2.1, fun hc => ?_, (h.hD d hm).2.2.2⟩, List.nodup_cons.2 ⟨fun hc => Nat.lt_irrefl _ (h.lt _ (.inr hc)), h.nd⟩, fun d hm => ?_, h.cap, fun x hx => ?_, (Array.getElem?_eq_some_iff.1 hk).1⟩
 ·rcases List.mem_cons.1 hc with rfl | hc
  ·exact hd _ hm rfl
  ·exact (h.hD d hm).2.2.1 hc
 ·rcases List.mem_cons.1 hm with rfl | hm
  ·exact ⟨hk, hp⟩
  ·exact h.hm d hm
 ·rcases hx with rfl | hx
  ·omega
  ·rcases List.mem_cons.1 hx with rfl | hx
   ·omega
   ·have := h.lt x (.inr hx); omega
theorem flat_in {β γ : Type} {g : β → List γ} {xs : List β} {i : Nat} {x : β} {ys : List γ} {p : γ} {zs : List γ} (hx : xs[i]? = some x) (hp : g x = ys ++ p :: zs) : ∃ zt, xs.flatMap g = ((xs.take i).flatMap g ++ ys) ++ p :: zt := by
 obtain ⟨hi, hxe⟩ := List.getElem?_eq_some_iff.1 hx; refine ⟨zs ++ (xs.drop (i + 1)).flatMap g, ?_⟩
 have h1 : xs = xs.take i ++ x :: xs.drop (i + 1) := by
  conv => lhs; rw [← List.take_append_drop i xs, List.drop_eq_getElem_cons hi, hxe]
 conv => lhs; rw [h1, List.flatMap_append, List.flatMap_cons, hp]
 simp
theorem catPcs_eq (L : LCat) : catPcs L.cat = L.bs.flatMap (fun b => bkPcs b.b) := by
 unfold catPcs LCat.cat; rw [List.flatMap_map]
set_option maxHeartbeats 16000000 in
theorem blobs_seq {w : World} {c1 : Nat} {L : LCat} (h : BlobsAt w c1 L) (hs : Small L) :
  SeqD Try.prog 30 #[.pointer (some ⟨c1, 0, none⟩)] EncP (catPcs L.cat) (blobsCap c1 L) w := by
 intro l J Jx W D o0 hD hJ hJx hY h0; have hlt := h.lt; have H := h.only o0 (by simp); obtain ⟨n, hn⟩ : ∃ n, L.bs.length = n := ⟨_, rfl⟩; obtain ⟨W1, hW1⟩ : ∃ W1, W1 = W.alloc (.cells #[.func (.yield l) #[] #[]] 72) := ⟨_, rfl⟩; have o1 : Only [] W W1 := (by rw [hW1]; exact Only.alloc _ _); have H1 := H.only o1 (by simp); have r1 : Row W1 W.heap.size 72 [.func (.yield l) #[] #[]] := (by rw [hW1]; exact Row.newOf _ _ _ _ rfl); have c0 := H1.1.cell (i := 0) rfl; obtain ⟨pb, hpb⟩ : ∃ pb, L.pb = pb := ⟨_, rfl⟩; rw [hn, hW1, hpb] at c0; have Hpb := Lib.hid hpb; rw [catPcs_eq] at hY ⊢; have Hlt : Hid (∀ x ∈ blobsCap c1 L, x < W.heap.size) := Lib.hid (fun x hx => Nat.lt_of_lt_of_le (hlt x hx) o0.size)
 have HD := Lib.hid hD; have HJ := Lib.hid hJ; have HJx := Lib.hid hJx; have HY := Lib.hid hY; have H0 := Lib.hid (hJ _ _ _ _ _ h0 o1 (by simp)); have Hat := Lib.hid H1; have Hr1 := Lib.hid r1; have Hn := Lib.hid hn; have Hs := Lib.hid hs; have HW1 := Lib.hid hW1; have Ho1 := Lib.hid o1; clear hpb h hD hJ hJx hY h0 hlt H o0 hn hs H1 r1 o1 hW1
 have HI0 : Hid (BlobsI W c1 L l W1.heap.size D [] W1) := Lib.hid ⟨Hat.out, Hr1.out, fun d hd => ⟨(HD.out d hd).1, by have := (HD.out d hd).2; omega, by simp, Nat.lt_of_lt_of_le (HD.out d hd).2 Ho1.out.size⟩, by simp, by simp, Hlt.out, fun x hx => by
  exact hx.elim (fun e => by rw [e]; exact Hr1.out.lt) (fun hx => by cases hx), Nat.le_refl _⟩
 clear Hat Hr1 Ho1 HD; have hn5 : n ≤ 100000 := (by rw [← Hn.out]; exact Hs.out.b); refine calls_of_marks Try.func30 rfl ?_; simp only [Try.ntmps30, List.size_toArray, List.length_cons, List.length_nil, Nat.reduceAdd, Nat.reduceSub, Array.replicate_succ, Array.replicate_zero, List.push_toArray, List.append_toArray, List.nil_append, List.cons_append]; go_wp2_with fail; rw [← HW1.out]; clear HW1 c0; refine wp_loop (fun a wr => ∃ (i : Nat) (D ds : List Nat) (p : Nat) (u4 u5 u10 u11 u12 u13 u14 u15 u16 u17 u18 u19 u20 : Value), a = ⟨#[.func (.yield l) #[] #[], .pointer (some ⟨c1, 0, none⟩), .pointer (some ⟨W.heap.size, 0, none⟩), undef, u4, u5, .pointer (some ⟨c1, 0, none⟩), .slice pb n L.cb, .int .i64 (n : Int), .int .i64 (i : Int), u10, u11, u12, u13, u14, u15, u16, u17, u18, u19, u20], ds.map mark⟩ ∧ i ≤ n ∧ Hid (J ((L.bs.take i).flatMap (fun b => bkPcs b.b)) D wr) ∧ Hid (BlobsI W c1 L l p D ds wr)) (fun a _ => n - (intOf (a.tmps.getD 9 undef)).toNat) ?start ?round
 case start => exact ⟨0, D, [], _, _, _, _, _, _, _, _, _, _, _, _, _, _, rfl, Nat.zero_le _, H0, HI0⟩
 case round =>
  clear H0 HI0; rintro a wr ⟨i, D, ds, p, u4, u5, u10, u11, u12, u13, u14, u15, u16, u17, u18, u19, u20, rfl, hi, HJi, HI⟩
  by_cases hlt : i < n
  ·obtain ⟨b, hbb⟩ : ∃ b, L.bs[i]? = some b := ⟨_, List.getElem?_eq_getElem (by rw [Hn.out]; exact hlt)⟩; have HB := HI.out.hat; obtain ⟨g, hg, -, -⟩ := HB.2.sb.at (by rw [Hn.out]; omega); have hrd := HB.2.sb.view.2.2.1; rw [hg] at hrd; obtain rfl : pb = some _ := Hpb.out.symm.trans hg; have d0 := rd_elem lbCells_len hrd hbb (r := 0) rfl; have d1 := rd_elem lbCells_len hrd hbb (r := 1) rfl; have d2 := rd_elem lbCells_len hrd hbb (r := 2) rfl; have d3 := rd_elem lbCells_len hrd hbb (r := 3) rfl; have d4 := rd_elem lbCells_len hrd hbb (r := 4) rfl; rw [Addr.add_lit, Nat.zero_add] at d0 d1 d2 d3 d4
   rw [Nat.add_zero] at d0; have hmem := List.mem_of_getElem? hbb; have hbo := HB.2.bk b hmem; obtain ⟨wt, hwt⟩ : ∃ wt, wt = wr.alloc (.cells #[.string (str b.name), .int .i64 b.time, .int .i64 b.days, .slice b.po b.os.length b.co, .slice b.pu b.us.length b.cu] 63) := ⟨_, rfl⟩; have ot : Only [] wr wt := (by rw [hwt]; exact Only.alloc _ _); have hpc := pieces_any b wt; have Hbb := Lib.hid hbb; have Hmem := Lib.hid hmem; have Hot := Lib.hid ot; have Hbo := Lib.hid (hbo.only0 ot); have Hwt := Lib.hid hwt; unfold lbV at hpc; clear hrd hbb hmem ot hwt hg HB hbo; go_wp2_with fail; rw [← Hwt.out]; refine hpc.mono ?_
   clear hpc d0 d1 d2 d3 d4 Hwt; rintro e wc ⟨c2, rfl, rc, oc, hc2⟩; have HP : Hid (PcsAt wc c2 b) := Lib.hid ⟨rc, Hbo.out.only0 oc⟩; have Hoc := Lib.hid (Hot.out.trans0 oc); have Hc2 := Lib.hid hc2; clear rc oc hc2; unfold pcsF; go_wp2_with fail; have hz1 := Hoc.out.size; have HpW := Lib.hid HI.out.pW; have HIs := Lib.hid HI.out.size; have HWc : Hid (W.heap.size < wc.heap.size) := Lib.hid (by have := HpW.out; have := HIs.out; omega); have hsb := Hs.out.o b Hmem.out
   refine wp_rangeD (xs := bkPcs b.b) rfl (enters_of Try.func45 (by kernel_rfl) rfl) (pieces_seq HP.out hsb.1 hsb.2.1 hsb.2.2.1 hsb.2.2.2) HP.out.lt (by rintro _ _ _ _ ⟨rfl, -⟩; rfl)
    (fun ys D w => J ((L.bs.take i).flatMap (fun b => bkPcs b.b) ++ ys) D w ∧ BlobsI W c1 L l wc.heap.size D ds w)
    (fun c ys D w => c = .ret ∧ Jx ((L.bs.take i).flatMap (fun b => bkPcs b.b) ++ ys) D w ∧ BlobsI W c1 L l wc.heap.size D ds w) D ?hD0 ?hI ?hIx ?h0 ?hround ?done ?stop
   case hD0 =>
    intro d hd; obtain ⟨h1, -, -, h4⟩ := HI.out.hD d hd; have h5 := Hot.out.size; refine ⟨fun hm => ?_, by omega⟩
    rcases List.mem_cons.1 hm with rfl | hm
    ·have := Hc2.out; omega
    ·exact h1 (List.mem_cons_of_mem _ (List.mem_append_right _ (List.mem_append_right _ (List.mem_flatMap.2 ⟨b, Hmem.out, hm⟩))))
   case hI =>
    rintro ys D A B T ⟨hj, hb⟩ ho hT; refine ⟨HJ.out _ _ _ _ _ hj ho (fun t ht => ⟨(hT t ht).1, by have := (hT t ht).2; have := HWc.out; omega⟩), hb.step ho (fun t ht => .inr (hT t ht).2) (fun d hd => ⟨.inl hd, Nat.lt_of_lt_of_le (hb.hD d hd).2.2.2 ho.size⟩)⟩
   case hIx =>
    rintro c ys D A B T ⟨hc, hj, hb⟩ ho hT; refine ⟨hc, HJx.out _ _ _ _ _ hj ho (fun t ht => ⟨(hT t ht).1, by have := (hT t ht).2; have := HWc.out; omega⟩), hb.step ho (fun t ht => .inr (hT t ht).2) (fun d hd => ⟨.inl hd, Nat.lt_of_lt_of_le (hb.hD d hd).2.2.2 ho.size⟩)⟩
   case h0 =>
    refine ⟨by rw [List.append_nil]; exact HJ.out _ _ _ _ _ HJi.out Hoc.out (by simp), (HI.out.step Hoc.out (by simp) (fun d hd => ⟨.inl hd, Nat.lt_of_lt_of_le (HI.out.hD d hd).2.2.2 hz1⟩)).raise (by have := HIs.out; omega) (Nat.le_refl _)⟩
   case done =>
    rintro D B ⟨hj, hb⟩ hd hk; have HJn : Hid (J ((L.bs.take (i + 1)).flatMap (fun b => bkPcs b.b)) D B) := Lib.hid (by rw [flat_succ Hbb.out]; exact hj); have HIn := Lib.hid (hb.push hk (fun d hm => (hd d hm).1)); clear hj hb hd hk hsb hz1; go_wp2_with fail; refine ⟨⟨i + 1, D, wc.heap.size :: ds, _, _, _, _, _, _, _, _, _, _, _, _, _, _, by go_num, by omega, HJn, HIn⟩, ?_⟩; show n - ((i : Int) + 1).toNat < n - ((i : Int)).toNat; omega
   case stop =>
    rintro c ys D B ⟨rfl, hj, hb⟩ hd hk; have hp := hb.push hk (fun d hm => (hd d hm).1); have Hp := Lib.hid hp; have Hj := Lib.hid hj; clear hj hb hd hk hsb hz1 hp; go_wp2_with fail; exact mretL (wc.heap.size :: ds) B Hp.out.nd (fun d hd => (Hp.out.hm d hd).1) (fun w' ho => ⟨_, results_none rfl _ _ _, ⟨_, rfl⟩, .inr ⟨_, D, HJx.out _ _ _ _ _ Hj.out ho (fun t ht => ⟨fun hm => (Hp.out.hD t hm).2.2.1 ht, Nat.le_of_lt (Hp.out.hm t ht).2⟩)⟩⟩)
   case hround =>
    rintro l2 ys x zs D2 A vs G hl1 hl2 hDG hG ⟨hj, hb⟩ hxs ⟨rfl, rfl⟩; obtain ⟨A1, hA1⟩ : ∃ A1, A1 = A.alloc (.cells #[.int .i64 x.blob.node, .int .i64 x.blob.boot, .int .i64 x.blob.seq, .int .i64 x.size, .string (str x.etag)] 36) := ⟨_, rfl⟩; have oA : Only [] A A1 := (by rw [hA1]; exact Only.alloc _ _); have rA : Row A1 A.heap.size 36 [.int .i64 x.blob.node, .int .i64 x.blob.boot, .int .i64 x.blob.seq, .int .i64 x.size, .string (str x.etag)] := (by rw [hA1]; exact Row.newOf _ _ _ _ rfl); obtain ⟨zt, hzt⟩ := flat_in (g := fun b : LBk => bkPcs b.b) Hbb.out hxs; have hDG2 : ∀ d ∈ D2, d ≠ l2 ∧ d < A.heap.size := fun d hd => hDG d (by simp [hd])
    have Hj := Lib.hid hj; have Hb := Lib.hid hb; have HoA := Lib.hid oA; have HrA := Lib.hid rA; have Hzt := Lib.hid hzt; have HDG := Lib.hid hDG2; have HA1 := Lib.hid hA1; have Hl1 := Lib.hid hl1; have Hl2 := Lib.hid hl2; have Hsz := Lib.hid hb.size; unfold pcV; clear hj hb oA rA hxs hDG hDG2 hG hA1 hsb hz1 hzt hl1 hl2
    gi_wp2_with fail
    rw [← HA1.out]; refine ⟨HoA.out, fun A2 o2 hs2 => ?_⟩; have hn2 : A.heap.size ≠ l2 := (by have := Hl2.out; omega); have rA2 := HrA.out.only o2 (by simp; exact hn2); have p0 := rA2.cell (i := 0) rfl; have p1 := rA2.cell (i := 1) rfl; have p2 := rA2.cell (i := 2) rfl; have p3 := rA2.cell (i := 3) rfl; have p4 := rA2.cell (i := 4) rfl; have ob2 : Only [l2] A A2 := (HoA.out.mono (by simp)).trans o2 (fun i hi _ => hi); have hb2 := Hb.out.step ob2 (fun t ht => by obtain rfl := List.mem_singleton.1 ht; exact .inr (Nat.le_of_lt Hl1.out)) (D' := D2) (fun d hd => ⟨.inl hd, Nat.lt_of_lt_of_le (HDG.out d hd).2 ob2.size⟩)
    have cb := hb2.box.cell (i := 0) rfl
    have hj2 := HJ.out _ _ _ _ _ Hj.out ob2 (fun t ht => by
     obtain rfl := List.mem_singleton.1 ht
     exact ⟨fun hm => (HDG.out _ hm).1 rfl, by have := HWc.out; have := Hl1.out; omega⟩)
    obtain ⟨fn, tmps, assign, body, hy, hR⟩ := HY.out _ x _ D2 A2 _ [] hj2 Hzt.out ⟨rfl, rfl⟩ (by simp); unfold pcV at hy; have HR := Lib.hid hR; have Hb2 := Lib.hid hb2; have Hob2 := Lib.hid ob2.size; clear hR hb2 ob2 hj2 rA2 o2 hs2 hn2
    gi_wp2_with fail
    refine (roundIn_wide HR.out).mono ?_; clear hy HR p0 p1 p2 p3 p4 cb; rintro e2 w3 ⟨D', o3, hD3, ⟨rfl, hj3⟩ | ⟨rfl, hj3⟩⟩
    ·have HE : Hid (∃ S D', Only S A2 w3 ∧ (∀ s ∈ S, s ∈ D2 ++ [] ∨ A.heap.size ≤ s) ∧ (∀ d ∈ D', (d ∈ D2 ++ [] ∨ A.heap.size ≤ d) ∧ d < w3.heap.size) ∧ J ((L.bs.take i).flatMap (fun b => bkPcs b.b) ++ (ys ++ [x])) D' w3 ∧ BlobsI W c1 L l wc.heap.size D' ds w3) := Lib.hid (by
      have h7 := Hob2.out; have h8 := Hsz.out; refine ⟨_, D', o3, fun s hs => .inl hs, fun d hd => ⟨?_, (hD3 d hd).2⟩, by rw [← List.append_assoc]; exact hj3, Hb2.out.step o3 (fun t ht => .inl (by simpa using ht)) (fun d hd => ⟨?_, (hD3 d hd).2⟩)⟩
      ·rcases (hD3 d hd).1 with h5 | h5 | h5
       ·exact .inl (by simp [h5])
       ·cases h5
       ·exact .inr (by omega)
      ·rcases (hD3 d hd).1 with h5 | h5 | h5
       ·exact .inl h5
       ·cases h5
       ·exact .inr (by omega))
     clear o3 hD3 hj3
     gi_wp2_with fail
     exact HE.out
    ·have HE : Hid (∃ S D', Only S A2 w3 ∧ (∀ s ∈ S, s ∈ D2 ++ [] ∨ A.heap.size ≤ s) ∧ (∀ d ∈ D', (d ∈ D2 ++ [] ∨ A.heap.size ≤ d) ∧ d < w3.heap.size) ∧ Jx ((L.bs.take i).flatMap (fun b => bkPcs b.b) ++ (ys ++ [x])) D' w3 ∧ BlobsI W c1 L l wc.heap.size D' ds w3) := Lib.hid (by
      have h7 := Hob2.out; have h8 := Hsz.out; refine ⟨_, D', o3, fun s hs => .inl hs, fun d hd => ⟨?_, (hD3 d hd).2⟩, by rw [← List.append_assoc]; exact hj3, Hb2.out.step o3 (fun t ht => .inl (by simpa using ht)) (fun d hd => ⟨?_, (hD3 d hd).2⟩)⟩
      ·rcases (hD3 d hd).1 with h5 | h5 | h5
       ·exact .inl (by simp [h5])
       ·cases h5
       ·exact .inr (by omega)
      ·rcases (hD3 d hd).1 with h5 | h5 | h5
       ·exact .inl h5
       ·cases h5
       ·exact .inr (by omega))
     clear o3 hD3 hj3
     gi_wp2_with fail
     obtain ⟨S, D3, e1, e2, e3, e4⟩ := HE.out; exact ⟨S, D3, e1, e2, e3, rfl, e4⟩
  ·obtain rfl : i = n := by omega
   have HJe : Hid (J (L.bs.flatMap (fun b => bkPcs b.b)) D wr) := Lib.hid (by
    have h := HJi.out
    rwa [List.take_of_length_le (by rw [Hn.out]; exact Nat.le_refl _)] at h)
   clear HJi; go_wp2_with fail; exact mretL ds wr HI.out.nd (fun d hd => (HI.out.hm d hd).1) (fun w' ho => ⟨_, results_none rfl _ _ _, ⟨_, rfl⟩, .inl ⟨D, HJ.out _ _ _ _ _ HJe.out ho (fun t ht => ⟨fun hm => (HI.out.hD t hm).2.2.1 ht, Nat.le_of_lt (HI.out.hm t ht).2⟩)⟩⟩)
end Go.Proofs.Ytfeglnpmpgipiaa
end
section
set_option linter.unusedVariables false
set_option maxRecDepth 100000
namespace Go.Proofs.Ytfeglnpmpgipiaa
open Go.RowKit
def sgn (a b : Bool) : Int := if a = true then -1 else if b = true then 0 else 1
theorem isNaN_int (x : Int) (w : World) : Calls Try.prog 47 #[.int .i64 x] w fun e w' => e = .returned (.bool false) ∧ w = w' := by
 go_enter Try.func47, Try.ntmps47
 go_wp2_with fail
 go_ret
 exact ⟨by simp, rfl⟩
theorem compare_int (x y : Int) (w : World) : Calls Try.prog 35 #[.int .i64 x, .int .i64 y] w fun e w' => e = .returned (.int .i64 (sgn (decide (x < y)) (decide (x = y)))) ∧ w = w' := by
 by_cases h1 : x < y
 ·rw [decide_eq_true h1]; unfold sgn
  go_enter Try.func35, Try.ntmps35
  go_wp2_with fail; (with_reducible refine (isNaN_int x w).mono ?_); rintro e w' ⟨rfl, rfl⟩; go_wp2_with fail; (with_reducible refine (isNaN_int y w).mono ?_); rintro e w' ⟨rfl, rfl⟩; go_wp2_with fail
  go_ret
  exact ⟨rfl, rfl⟩
 ·rw [decide_eq_false h1]
  by_cases h2 : y < x
  ·rw [decide_eq_false (show ¬ x = y by omega)]; unfold sgn
   go_enter Try.func35, Try.ntmps35
   go_wp2_with fail; (with_reducible refine (isNaN_int x w).mono ?_); rintro e w' ⟨rfl, rfl⟩; go_wp2_with fail; (with_reducible refine (isNaN_int y w).mono ?_); rintro e w' ⟨rfl, rfl⟩; go_wp2_with fail
   go_ret
   exact ⟨rfl, rfl⟩
  ·rw [decide_eq_true (show x = y by omega)]; unfold sgn
   go_enter Try.func35, Try.ntmps35
   go_wp2_with fail; (with_reducible refine (isNaN_int x w).mono ?_); rintro e w' ⟨rfl, rfl⟩; go_wp2_with fail; (with_reducible refine (isNaN_int y w).mono ?_); rintro e w' ⟨rfl, rfl⟩; go_wp2_with fail
   go_ret
   exact ⟨rfl, rfl⟩
theorem byNode_any (f : Cid) (k : Int) (w : World) : Calls Try.prog 33 #[idV f, .int .i64 k] w fun e w' => e = .returned (.int .i64 (sgn (decide (ltZ f.node k)) (decide (f.node = k)))) ∧ Only [] w w' := by
 obtain ⟨w1, hw1⟩ : ∃ w1, w1 = w.alloc (.cells #[.int .i64 f.node, .int .i64 f.boot, .int .i64 f.seq] 31) := ⟨_, rfl⟩; have o1 : Only [] w w1 := (by rw [hw1]; exact Only.alloc _ _); have r1 : Row w1 w.heap.size 31 (idCells f) := (by rw [hw1]; exact Row.newOf _ _ _ _ rfl); have hc := compare_int f.node k w1; have c0 := r1.cell (i := 0) rfl; have Ho := Lib.hid o1; have Hw := Lib.hid hw1; unfold ltZ; unfold idV; clear o1 r1 hw1
 go_enter Try.func33, Try.ntmps33
 go_upto_region 1 with (fail)
 rw [← Hw.out]; go_wp2_with fail; refine hc.mono ?_; clear hc c0; rintro e w' ⟨rfl, rfl⟩; go_wp2_with fail
 go_ret
 exact ⟨rfl, Ho.out⟩
end Go.Proofs.Ytfeglnpmpgipiaa
end
section
set_option linter.unusedVariables false
set_option maxRecDepth 100000
namespace Go.Proofs.Ytfeglnpmpgipiaa
open Go.RowKit
set_option maxHeartbeats 8000000 in
theorem bsfId_any (p : Option Addr) (n c : Nat) (xs : List Cid) (k : Int) (w0 : World) (hn : xs.length = n) (hb : n ≤ 1000000) (hp : p = none → n = 0) (hx : Rd w0 p (xs.flatMap idCells)) (hs : SortB Cid.node ltZ xs) :
  Calls Try.prog 46 #[.slice p n c, .int .i64 k, .func (.func 33) #[] #[]] w0 fun e w' => e = .returned (.tuple #[.int .i64 ((posL Cid.node ltZ xs k : Nat) : Int), .bool (thereL Cid.node ltZ xs k)]) ∧ Only [] w0 w' := by
 have Hx := Lib.hid hx; have Hs := Lib.hid hs; have Hn := Lib.hid hn; have Hp := Lib.hid hp; clear hx hs hn hp
 go_enter Try.func46, Try.ntmps46
 go_wp2_with fail
 go_loopw [9, 10] (fun s9 s10 wr => ∃ i j : Nat, s9 = .int .i64 (i : Int) ∧ s10 = .int .i64 (j : Int) ∧ i ≤ j ∧ j ≤ n ∧ Hid ((∀ x, 0 < i → xs[i - 1]? = some x → ltZ (Cid.node x) k) ∧ (∀ x, xs[j]? = some x → ¬ ltZ (Cid.node x) k)) ∧ Hid (Only [] w0 wr)) (fun s9 s10 _ => (intOf s10).toNat - (intOf s9).toNat)
 case atStart => exact ⟨0, n, rfl, rfl, Nat.zero_le _, Nat.le_refl _, Lib.hid ⟨fun x h => absurd h (by omega), fun x h => by have := (List.getElem?_eq_some_iff.1 h).1; rw [Hn.out] at this; omega⟩, Lib.hid (Only.refl _ _)⟩
 case round =>
  obtain ⟨i, j, rfl, rfl, hij, hjn, HI, HO⟩ := hrel
  by_cases hlt : i < j
  ·obtain ⟨x, hxx⟩ : ∃ x, xs[(i + j) / 2]? = some x := ⟨_, List.getElem?_eq_getElem (by rw [Hn.out]; omega)⟩; have hrd := Hx.out.only0 HO.out; have hne : xs.flatMap idCells ≠ [] := fun e' => (by have := flat_get idCells 3 idCells_len xs _ x 0 hxx (by omega); rw [e'] at this; cases this); obtain ⟨b, off, rfl, -⟩ := hrd.lt hne; have x0 := rd_elem idCells_len hrd hxx (r := 0) rfl; have x1 := rd_elem idCells_len hrd hxx (r := 1) rfl; have x2 := rd_elem idCells_len hrd hxx (r := 2) rfl; rw [Addr.add_lit, ← Nat.add_assoc] at x0 x1 x2; rw [Nat.add_zero] at x0; have hby := byNode_any x k wr; have Hxx := Lib.hid hxx
   unfold idV at hby; have hmid : (i + j) / 2 < n := (by omega); clear hrd hne hxx
   by_cases hl : ltZ (Cid.node x) k
   ·rw [decide_eq_true hl] at hby; unfold sgn at hby; rw [if_pos rfl] at hby; have Hl := Lib.hid hl; clear hl; go_wp2_with fail; refine hby.mono ?_; clear hby x0 x1 x2; rintro e w' ⟨rfl, o'⟩
    have HI2 : Hid ((∀ x, 0 < (i + j) / 2 + 1 → xs[(i + j) / 2 + 1 - 1]? = some x → ltZ (Cid.node x) k) ∧ (∀ x, xs[j]? = some x → ¬ ltZ (Cid.node x) k)) := Lib.hid ⟨fun y _ hy => by
     rw [Nat.add_sub_cancel, Hxx.out] at hy
     cases hy
     exact Hl.out, HI.out.2⟩
    have HO2 := Lib.hid (HO.out.trans0 o'); clear o'; go_wp2_with fail; refine ⟨⟨(i + j) / 2 + 1, j, by go_num, rfl, by omega, hjn, HI2, HO2⟩, ?_⟩
    simp [intOf]; omega
   ·rw [decide_eq_false hl] at hby; unfold sgn at hby; rw [if_neg (by simp)] at hby; have Hl := Lib.hid hl
    have HI2 : Hid ((∀ x, 0 < i → xs[i - 1]? = some x → ltZ (Cid.node x) k) ∧ (∀ x, xs[(i + j) / 2]? = some x → ¬ ltZ (Cid.node x) k)) := Lib.hid ⟨HI.out.1, fun y hy => by
     rw [Hxx.out] at hy
     cases hy
     exact Hl.out⟩
    clear hl
    by_cases hk : Cid.node x = k
    ·rw [decide_eq_true hk, if_pos rfl] at hby; clear hk; go_wp2_with fail; refine hby.mono ?_; clear hby x0 x1 x2; rintro e w' ⟨rfl, o'⟩; have HO2 := Lib.hid (HO.out.trans0 o'); clear o'; go_wp2_with fail; refine ⟨⟨i, (i + j) / 2, rfl, by go_num, by omega, by omega, HI2, HO2⟩, ?_⟩
     simp [intOf]; omega
    ·rw [decide_eq_false hk, if_neg (by simp)] at hby; clear hk; go_wp2_with fail; refine hby.mono ?_; clear hby x0 x1 x2; rintro e w' ⟨rfl, o'⟩; have HO2 := Lib.hid (HO.out.trans0 o'); clear o'; go_wp2_with fail; refine ⟨⟨i, (i + j) / 2, rfl, by go_num, by omega, by omega, HI2, HO2⟩, ?_⟩
     simp [intOf]; omega
  ·obtain rfl : i = j := (by omega); have Hpos : Hid (posL Cid.node ltZ xs k = i) := Lib.hid (posL_eq linZ' Hs.out (by rw [Hn.out]; exact hjn) HI.out.1 HI.out.2)
   by_cases hin : i < n
   ·obtain ⟨x, hxx⟩ : ∃ x, xs[i]? = some x := ⟨_, List.getElem?_eq_getElem (by rw [Hn.out]; omega)⟩; have Hth : Hid (thereL Cid.node ltZ xs k = decide (Cid.node x = k)) := Lib.hid (by unfold thereL; rw [Hpos.out, hxx]); have hl := HI.out.2 x hxx; have hrd := Hx.out.only0 HO.out; have hne : xs.flatMap idCells ≠ [] := fun e' => (by have := flat_get idCells 3 idCells_len xs _ x 0 hxx (by omega); rw [e'] at this; cases this); obtain ⟨b, off, rfl, -⟩ := hrd.lt hne; have x0 := rd_elem idCells_len hrd hxx (r := 0) rfl; have x1 := rd_elem idCells_len hrd hxx (r := 1) rfl; have x2 := rd_elem idCells_len hrd hxx (r := 2) rfl
    rw [Addr.add_lit, ← Nat.add_assoc] at x0 x1 x2; rw [Nat.add_zero] at x0; have hby := byNode_any x k wr; unfold idV sgn at hby; rw [decide_eq_false hl, if_neg (by simp)] at hby; clear hrd hne hxx hl
    by_cases hk : Cid.node x = k
    ·rw [decide_eq_true hk, if_pos rfl] at hby; rw [decide_eq_true hk] at Hth; clear hk; go_wp2_with fail; refine hby.mono ?_; clear hby x0 x1 x2; rintro e w' ⟨rfl, o'⟩; have HO2 := Lib.hid (HO.out.trans0 o'); clear o'; go_wp2_with fail
     go_ret2
     exact ⟨by rw [Hpos.out, Hth.out]; rfl, HO2.out⟩
    ·rw [decide_eq_false hk, if_neg (by simp)] at hby; rw [decide_eq_false hk] at Hth; clear hk; go_wp2_with fail; refine hby.mono ?_; clear hby x0 x1 x2; rintro e w' ⟨rfl, o'⟩; have HO2 := Lib.hid (HO.out.trans0 o'); clear o'; go_wp2_with fail
     go_ret2
     exact ⟨by rw [Hpos.out, Hth.out]; rfl, HO2.out⟩
   ·obtain rfl : i = n := by omega
    have Hth : Hid (thereL Cid.node ltZ xs k = false) := Lib.hid (by
     unfold thereL
     rw [Hpos.out, List.getElem?_eq_none_iff.2 (by rw [Hn.out]; exact Nat.le_refl _)])
    go_wp2_with fail
    go_ret2
    exact ⟨by rw [Hpos.out, Hth.out]; rfl, HO.out⟩
theorem findId_any (p : Option Addr) (n c : Nat) (xs : List Cid) (k : Int) (w0 : World) (hn : xs.length = n) (hb : n ≤ 1000000) (hp : p = none → n = 0) (hx : Rd w0 p (xs.flatMap idCells)) (hs : SortB Cid.node ltZ xs) :
  Calls Try.prog 32 #[.slice p n c, .int .i64 k, .func (.func 33) #[] #[]] w0 fun e w' => e = .returned (.tuple #[.int .i64 ((posL Cid.node ltZ xs k : Nat) : Int), .bool (thereL Cid.node ltZ xs k)]) ∧ Only [] w0 w' := by
 have h := bsfId_any p n c xs k w0 hn hb hp hx hs; generalize posL Cid.node ltZ xs k = i at h; generalize thereL Cid.node ltZ xs k = b at h
 go_enter Try.func32, Try.ntmps32
 go_wp2_with fail; refine h.mono ?_; clear h; rintro e w' ⟨rfl, o'⟩; go_wp2_with fail
 go_ret2
 exact ⟨rfl, o'⟩
end Go.Proofs.Ytfeglnpmpgipiaa
end
section
set_option linter.unusedVariables false
set_option maxRecDepth 100000
namespace Go.Proofs.Ytfeglnpmpgipiaa
open Go.RowKit
theorem idInfo : (Try.prog.info? 31).map (·.size) = some 3 := by kernel_rfl
def id0 : Cid := ⟨0, 0, 0⟩
def fiV (o : Option Cid) : Value := .tuple #[idV (o.getD id0), .bool o.isSome]
set_option maxHeartbeats 4000000 in
theorem floor_any (L : LCat) (k : Int) (w0 : World) (hA : CatAt w0 L) (hs : SortB Cid.node ltZ L.fs) (hl : L.fs.length ≤ 1000000) :
  Calls Try.prog 20 #[lcV L, .int .i64 k] w0 fun e w' => e = .returned (fiV (floorAt L.fs k)) ∧ Only [] w0 w' := by
 obtain ⟨w1, hw1⟩ : ∃ w1, w1 = w0.alloc (.cells #[.slice L.pb L.bs.length L.cb, .slice L.pf L.fs.length L.cf] 27) := ⟨_, rfl⟩; obtain ⟨w2, hw2⟩ : ∃ w2, w2 = w1.alloc (.cells #[.int .i64 0, .int .i64 0, .int .i64 0] 31) := ⟨_, rfl⟩; have o1 : Only [] w0 w1 := (by rw [hw1]; exact Only.alloc _ _); have o2 : Only [] w1 w2 := (by rw [hw2]; exact Only.alloc _ _); have s1 : w1.heap.size = w0.heap.size + 1 := (by rw [hw1]; simp); have r1 : Row w2 w0.heap.size 27 (lcCells L) := (show Row w1 w0.heap.size 27 (lcCells L) by rw [hw1]; exact Row.newOf _ _ _ _ rfl).only0 o2; have r2 : Row w2 (w0.heap.size + 1) 31 [.int .i64 0, .int .i64 0, .int .i64 0] := by rw [← s1, hw2]; exact Row.newOf _ _ _ _ rfl
 have o12 := o1.trans0 o2; have hf := findId_any L.pf L.fs.length L.cf L.fs k w2 rfl hl (fun h => (hA.sf.2.1 h).1) (hA.sf.1.only0 o12) hs; have c1 := r1.cell (i := 1) rfl; obtain ⟨n, hn⟩ : ∃ n, L.fs.length = n := ⟨_, rfl⟩; rw [hn] at hf c1; have HA := Lib.hid (hA.only0 o12); have HO := Lib.hid o12; have HR1 := Lib.hid r1; have HR2 := Lib.hid r2; have Hw1 := Lib.hid hw1; have Hw2 := Lib.hid hw2; have Hn := Lib.hid hn; unfold lcV; rw [hn]; clear o1 o2 s1 r1 r2 o12 hw1 hw2 hn hl hA
 go_enter Try.func20, Try.ntmps20
 go_upto_region 1 with (fail)
 rw [Hn.out] at Hw1; rw [← Hw1.out, ← Hw2.out]; clear Hw1 Hw2; go_wp2_with fail; refine hf.mono ?_; clear hf c1; rintro e w3 ⟨rfl, o3⟩; have HR3 := Lib.hid (HR2.out.only0 o3); have HO3 := Lib.hid (HO.out.trans0 o3); have hr1 := HR1.out.only0 o3; have hrd := HA.out.sf.1.only0 o3; clear o3
 cases ht : thereL Cid.node ltZ L.fs k with
 | false =>
  have hfl : floorAt L.fs k = none := by
   unfold floorAt
   cases hp : L.fs[posL Cid.node ltZ L.fs k]? with
   | none => rfl
   | some f =>
    unfold thereL at ht; rw [hp] at ht; dsimp only at ht ⊢; rw [if_neg (of_decide_eq_false ht)]
  have Hst := Lib.hid (HR3.out.storeAt (P := Try.prog) (ty := 31) (us := [.int .i64 0, .int .i64 0, .int .i64 0]) idInfo rfl (by simp [Value.oneCell'])); have Hrow := Lib.hid (HR3.out.setRow [.int .i64 0, .int .i64 0, .int .i64 0]); have HOf := Lib.hid (HO3.out.transN (Only.setRow w3 (w0.heap.size + 1) #[.int .i64 0, .int .i64 0, .int .i64 0]) (by simp)); have Hfl := Lib.hid hfl; clear hr1 hrd ht hfl
  go_wp2_with (first | ((with_reducible show wpList _ _ _ _ _ _); refine wpl_store (ty := 31) (x := .tmp 4) (y := .tmp 17) rfl rfl rfl rfl Hst.out ?_))
  exact bodyPost_ret (results_c2 rfl _ _ _ rfl Hrow.out Try.underlying31 idInfo) rfl ⟨by rw [Hfl.out]; rfl, HOf.out⟩
 | true =>
  obtain ⟨f, hf, hfn⟩ := there_at ht; have hfl : floorAt L.fs k = some f := (by unfold floorAt; rw [hf]; dsimp only; rw [if_pos hfn]); have hpl : posL Cid.node ltZ L.fs k < n := (by rw [← Hn.out]; exact (List.getElem?_eq_some_iff.1 hf).1); obtain ⟨i, hi⟩ : ∃ i, posL Cid.node ltZ L.fs k = i := ⟨_, rfl⟩; rw [hi] at hf hpl ⊢; have hne : L.fs.flatMap idCells ≠ [] := fun e' => (by have := flat_get idCells 3 idCells_len L.fs _ f 0 hf (by omega); rw [e'] at this; cases this); obtain ⟨b, off, hpe, -⟩ := hrd.lt hne; have c1 := hr1.cell (i := 1) rfl; rw [Hn.out, hpe] at c1; rw [hpe] at hrd; have x0 := rd_elem idCells_len hrd hf (r := 0) rfl
  have x1 := rd_elem idCells_len hrd hf (r := 1) rfl; have x2 := rd_elem idCells_len hrd hf (r := 2) rfl; rw [Addr.add_lit, ← Nat.add_assoc] at x0 x1 x2; rw [Nat.add_zero] at x0; have Hst := Lib.hid (HR3.out.storeAt (P := Try.prog) (ty := 31) (us := [.int .i64 f.node, .int .i64 f.boot, .int .i64 f.seq]) idInfo rfl (by simp [Value.oneCell'])); have Hrow := Lib.hid (HR3.out.setRow [.int .i64 f.node, .int .i64 f.boot, .int .i64 f.seq]); have HOf := Lib.hid (HO3.out.transN (Only.setRow w3 (w0.heap.size + 1) #[.int .i64 f.node, .int .i64 f.boot, .int .i64 f.seq]) (by simp)); have Hfl := Lib.hid hfl
  clear hr1 hrd ht hfl hne hf hfn hi hpe
  go_wp2_with (first | ((with_reducible show wpList _ _ _ _ _ _); refine wpl_store (ty := 31) (x := .tmp 4) (y := .tmp 22) rfl rfl rfl rfl Hst.out ?_))
  exact bodyPost_ret (results_c2 rfl _ _ _ rfl Hrow.out Try.underlying31 idInfo) rfl ⟨by rw [Hfl.out]; rfl, HOf.out⟩
end Go.Proofs.Ytfeglnpmpgipiaa
end
section
set_option linter.unusedVariables false
set_option maxRecDepth 100000
namespace Go.Proofs.Ytfeglnpmpgipiaa
open Go.RowKit
def orL (xs : List Int) : Int := (xs.find? fun x => decide (x ≠ 0)).getD 0
def zCells (xs : List Int) : List Value := xs.map fun x => .int .i64 x
theorem orInt_any (p : Option Addr) (n c : Nat) (xs : List Int) (w : World) (hn : xs.length = n) (hb : n ≤ 1000) (hx : Rd w p (zCells xs)) :
  Calls Try.prog 34 #[.slice p n c] w fun e w' => e = .returned (.int .i64 (orL xs)) ∧ w = w' := by
 have Hx := Lib.hid hx; have Hn := Lib.hid hn; clear hx hn
 go_enter Try.func34, Try.ntmps34
 go_wp2_with fail
 go_loop [8] (fun s8 => ∃ i : Nat, s8 = .int .i64 (i : Int) ∧ i ≤ n ∧ Hid (orL (xs.drop i) = orL xs)) (fun s8 => n - (intOf s8).toNat)
 case atStart => exact ⟨0, rfl, Nat.zero_le _, Lib.hid (by rw [List.drop_zero])⟩
 case round =>
  obtain ⟨i, rfl, hi, HE⟩ := hrel
  by_cases hlt : i < n
  ·have hlx : i < xs.length := (by rw [Hn.out]; exact hlt); obtain ⟨x, hxx⟩ : ∃ x, xs[i]? = some x := ⟨_, List.getElem?_eq_getElem hlx⟩; have hxg : xs[i] = x := (List.getElem?_eq_some_iff.1 hxx).2
   obtain ⟨b, off, hpe, hcell⟩ : ∃ b off, p = some ⟨b, off, none⟩ ∧ w.cell? ⟨b, off + i, none⟩ = some (.int .i64 x) := by
    rcases Hx.out with h | ⟨b, off, h1, h2⟩
    ·have : (zCells xs).length = 0 := (by rw [h]; rfl); rw [zCells, List.length_map] at this; omega
    ·exact ⟨b, off, h1, h2 i _ (by unfold zCells; rw [List.getElem?_map, hxx]; rfl)⟩
   subst hpe; have hd : xs.drop i = x :: xs.drop (i + 1) := by rw [List.drop_eq_getElem_cons hlx, hxg]
   by_cases hz : x = 0
   ·have HE2 : Hid (orL (xs.drop (i + 1)) = orL xs) := Lib.hid (by
     rw [← HE.out, hd]; unfold orL
     rw [List.find?_cons_of_neg (by simp [hz])])
    have hzz : (x != 0) = false := (by simp [hz]); clear hd hxg hxx hz hlx; go_wp2_with fail
    go_round
    case rel => exact ⟨i + 1, by go_num, by omega, HE2⟩
    case measure => simp [intOf]; omega
   ·have HE2 : Hid (orL xs = x) := Lib.hid (by
     rw [← HE.out, hd]; unfold orL; rw [List.find?_cons_of_pos (by simp [hz])]
     rfl)
    have hzz : (x != 0) = true := (by simp [hz]); clear hd hxg hxx hz hlx; go_wp2_with fail
    go_ret
    exact ⟨by rw [HE2.out]; rfl, rfl⟩
  ·obtain rfl : i = n := by omega
   have HE2 : Hid (orL xs = 0) := Lib.hid (by
    rw [← HE.out, List.drop_eq_nil_of_le (by rw [Hn.out]; exact Nat.le_refl _)]
    rfl)
   go_wp2_with fail
   go_ret
   exact ⟨by rw [HE2.out]; rfl, rfl⟩
def SlZ (xs : List Int) : Value → World → Prop := fun v w => ∃ g, v = .slice (some ⟨g, 0, none⟩) 3 3 ∧ Rd w (some ⟨g, 0, none⟩) (zCells xs)
theorem SlZ.stable (xs : List Int) : Stable (Only []) (SlZ xs) := fun _ _ _ ⟨g, h1, h2⟩ ho => ⟨g, h1, h2.only0 ho⟩
theorem or_sgn (x y : Cid) : orL [sgn (decide (x.node < y.node)) (decide (x.node = y.node)), sgn (decide (x.boot < y.boot)) (decide (x.boot = y.boot)), sgn (decide (x.seq < y.seq)) (decide (x.seq = y.seq))] = sgn (decide (ltI x y)) (decide (x = y)) := by
 obtain ⟨a1, a2, a3⟩ := x; obtain ⟨b1, b2, b3⟩ := y; unfold ltI orL sgn; simp only [Cid.mk.injEq]
 by_cases h1 : a1 < b1
 ·simp [h1]
 ·by_cases h2 : a1 = b1
  ·subst h2
   by_cases h3 : a2 < b2
   ·simp [h3]
   ·by_cases h4 : a2 = b2
    ·subst h4
     by_cases h5 : a3 < b3
     ·simp [h5]
     ·by_cases h6 : a3 = b3
      ·subst h6; simp
      ·simp [h5, h6]
    ·simp [h3, h4]
  ·simp [h1, h2]
set_option maxHeartbeats 4000000 in
theorem cmpId_any (x y : Cid) (w0 : World) : Calls Try.prog 21 #[idV x, idV y] w0 fun e w' => e = .returned (.int .i64 (sgn (decide (ltI x y)) (decide (x = y)))) ∧ Only [] w0 w' := by
 obtain ⟨w1, hw1⟩ : ∃ w1, w1 = w0.alloc (.cells #[.int .i64 x.node, .int .i64 x.boot, .int .i64 x.seq] 31) := ⟨_, rfl⟩; obtain ⟨w2, hw2⟩ : ∃ w2, w2 = w1.alloc (.cells #[.int .i64 y.node, .int .i64 y.boot, .int .i64 y.seq] 31) := ⟨_, rfl⟩; have o1 : Only [] w0 w1 := (by rw [hw1]; exact Only.alloc _ _); have o2 : Only [] w1 w2 := (by rw [hw2]; exact Only.alloc _ _); have s1 : w1.heap.size = w0.heap.size + 1 := (by rw [hw1]; simp); have r1 : Row w2 w0.heap.size 31 (idCells x) := (show Row w1 w0.heap.size 31 (idCells x) by rw [hw1]; exact Row.newOf _ _ _ _ rfl).only0 o2; have r2 : Row w2 (w0.heap.size + 1) 31 (idCells y) := by rw [← s1, hw2]; exact Row.newOf _ _ _ _ rfl
 have a0 := Lib.hid (r1.cell (i := 0) rfl); have a1 := Lib.hid (r1.cell (i := 1) rfl); have a2 := Lib.hid (r1.cell (i := 2) rfl); have b0 := Lib.hid (r2.cell (i := 0) rfl); have b1 := Lib.hid (r2.cell (i := 1) rfl); have b2 := Lib.hid (r2.cell (i := 2) rfl); have HO := Lib.hid (o1.trans0 o2); have Hw1 := Lib.hid hw1; have Hw2 := Lib.hid hw2; unfold idV; clear o1 o2 s1 r1 r2 hw1 hw2
 go_enter Try.func21, Try.ntmps21
 go_wp2_with fail; rw [← Hw1.out, ← Hw2.out]; refine wp_region_rg2 (Only []) [[(2, none)], [(5, some 0)], [(3, none)], [(7, some 0)], [(6, some 2), (8, some 0)], [(2, none)], [(10, some 0)], [(3, none)], [(12, some 0)], [(11, some 2), (13, some 0)], [(2, none)], [(15, some 0)], [(3, none)], [(17, some 0)], [(16, some 2), (18, some 0)], [(9, some 10), (14, some 5), (19, some 0)], [(20, some 0)], [(21, some 0)]] [(4, 0)] [none, none, none, none, some 4, some 5, some 6, some 7, some 8, some 9, some 10, some 11, some 12, some 13, some 14, some 15, some 16, some 17, some 18, some 19, some 20, some 21] (by kernel_rfl) rfl (by kernel_rfl) (fun _ => Only.refl _ _) (fun _ _ _ h k => h.trans0 k) (Only.drew _) (by kernel_rfl) ?_
 apply rg_ev
 ·intro a w hR hf; obtain ⟨e2, -⟩ := hf; replace e2 : a.tmps.getD 2 undef = _ := e2; refine rg_plain rfl fun K hK => ?_; go_simp; exact hK _ _ rfl (Only.refl _ _)
 apply rg_ev
 ·intro a w hR hf; obtain ⟨e5, -⟩ := hf; replace e5 : a.tmps.getD 5 undef = _ := e5; refine rg_plain rfl fun K hK => ?_; have g := hR.cell a0.out (by simp); go_simp; exact hK _ _ rfl (Only.refl _ _)
 apply rg_ev
 ·intro a w hR hf; obtain ⟨e3, -⟩ := hf; replace e3 : a.tmps.getD 3 undef = _ := e3; refine rg_plain rfl fun K hK => ?_; go_simp; exact hK _ _ rfl (Only.refl _ _)
 apply rg_ev
 ·intro a w hR hf; obtain ⟨e7, -⟩ := hf; replace e7 : a.tmps.getD 7 undef = _ := e7; refine rg_plain rfl fun K hK => ?_; have g := hR.cell b0.out (by simp); go_simp; exact hK _ _ rfl (Only.refl _ _)
 apply rg_ev
 ·intro a w hR hf; obtain ⟨e6, e8, -⟩ := hf; replace e6 : a.tmps.getD 6 undef = _ := e6; replace e8 : a.tmps.getD 8 undef = _ := e8; refine rg_plain rfl fun K hK => ?_; go_simp; (with_reducible refine (compare_int x.node y.node w).mono ?_); rintro e w' ⟨rfl, rfl⟩; exact hK _ _ rfl (Only.refl _ _)
 apply rg_ev
 ·intro a w hR hf; obtain ⟨e2, -⟩ := hf; replace e2 : a.tmps.getD 2 undef = _ := e2; refine rg_plain rfl fun K hK => ?_; go_simp; exact hK _ _ rfl (Only.refl _ _)
 apply rg_ev
 ·intro a w hR hf; obtain ⟨e10, -⟩ := hf; replace e10 : a.tmps.getD 10 undef = _ := e10; refine rg_plain rfl fun K hK => ?_; have g := hR.cell a1.out (by simp); go_simp; exact hK _ _ rfl (Only.refl _ _)
 apply rg_ev
 ·intro a w hR hf; obtain ⟨e3, -⟩ := hf; replace e3 : a.tmps.getD 3 undef = _ := e3; refine rg_plain rfl fun K hK => ?_; go_simp; exact hK _ _ rfl (Only.refl _ _)
 apply rg_ev
 ·intro a w hR hf; obtain ⟨e12, -⟩ := hf; replace e12 : a.tmps.getD 12 undef = _ := e12; refine rg_plain rfl fun K hK => ?_; have g := hR.cell b1.out (by simp); go_simp; exact hK _ _ rfl (Only.refl _ _)
 apply rg_ev
 ·intro a w hR hf; obtain ⟨e11, e13, -⟩ := hf; replace e11 : a.tmps.getD 11 undef = _ := e11; replace e13 : a.tmps.getD 13 undef = _ := e13; refine rg_plain rfl fun K hK => ?_; go_simp; (with_reducible refine (compare_int x.boot y.boot w).mono ?_); rintro e w' ⟨rfl, rfl⟩; exact hK _ _ rfl (Only.refl _ _)
 apply rg_ev
 ·intro a w hR hf; obtain ⟨e2, -⟩ := hf; replace e2 : a.tmps.getD 2 undef = _ := e2; refine rg_plain rfl fun K hK => ?_; go_simp; exact hK _ _ rfl (Only.refl _ _)
 apply rg_ev
 ·intro a w hR hf; obtain ⟨e15, -⟩ := hf; replace e15 : a.tmps.getD 15 undef = _ := e15; refine rg_plain rfl fun K hK => ?_; have g := hR.cell a2.out (by simp); go_simp; exact hK _ _ rfl (Only.refl _ _)
 apply rg_ev
 ·intro a w hR hf; obtain ⟨e3, -⟩ := hf; replace e3 : a.tmps.getD 3 undef = _ := e3; refine rg_plain rfl fun K hK => ?_; go_simp; exact hK _ _ rfl (Only.refl _ _)
 apply rg_ev
 ·intro a w hR hf; obtain ⟨e17, -⟩ := hf; replace e17 : a.tmps.getD 17 undef = _ := e17; refine rg_plain rfl fun K hK => ?_; have g := hR.cell b2.out (by simp); go_simp; exact hK _ _ rfl (Only.refl _ _)
 apply rg_ev
 ·intro a w hR hf; obtain ⟨e16, e18, -⟩ := hf; replace e16 : a.tmps.getD 16 undef = _ := e16; replace e18 : a.tmps.getD 18 undef = _ := e18; refine rg_plain rfl fun K hK => ?_; go_simp; (with_reducible refine (compare_int x.seq y.seq w).mono ?_); rintro e w' ⟨rfl, rfl⟩; exact hK _ _ rfl (Only.refl _ _)
 refine ⟨SlZ [sgn (decide (x.node < y.node)) (decide (x.node = y.node)), sgn (decide (x.boot < y.boot)) (decide (x.boot = y.boot)), sgn (decide (x.seq < y.seq)) (decide (x.seq = y.seq))], SlZ.stable _, fun a w hR hf => ?_, ?_⟩
 ·obtain ⟨e9, e14, e19, -⟩ := hf; replace e9 : a.tmps.getD 9 undef = _ := e9; replace e14 : a.tmps.getD 14 undef = _ := e14; replace e19 : a.tmps.getD 19 undef = _ := e19; refine rg_plain rfl fun K hK => ?_; have e9' := e9; rw [Array.getD_eq_getD_getElem?] at e9'; have e14' := e14; rw [Array.getD_eq_getD_getElem?] at e14'; have e19' := e19; rw [Array.getD_eq_getD_getElem?] at e19'; go_simp; refine hK _ _ ⟨w.heap.size, rfl, (Row.newOf w 3 _ _ (by rfl)).rd0⟩ (Only.alloc w _)
 apply rg_ev
 ·intro a w hR hf; obtain ⟨e20, -⟩ := hf; replace e20 : SlZ [sgn (decide (x.node < y.node)) (decide (x.node = y.node)), sgn (decide (x.boot < y.boot)) (decide (x.boot = y.boot)), sgn (decide (x.seq < y.seq)) (decide (x.seq = y.seq))] (a.tmps.getD 20 undef) w := e20; refine rg_plain rfl fun K hK => ?_; obtain ⟨g, e20, hrd⟩ := e20; go_simp; (with_reducible refine (orInt_any (some ⟨g, 0, none⟩) 3 3 _ w rfl (by decide) hrd).mono ?_); rintro e w' ⟨rfl, rfl⟩; exact hK _ _ rfl (Only.refl _ _)
 apply rg_ev
 ·intro a w hR hf; obtain ⟨e21, -⟩ := hf; replace e21 : a.tmps.getD 21 undef = _ := e21; refine rg_plain rfl fun K hK => ?_; go_simp; exact hK _ _ rfl (Only.refl _ _)
 intro fR1 wR1 hRR1 hf; dsimp only [mergeT]; obtain ⟨e4, -⟩ := hf; replace e4 : fR1 4 = _ := e4; rw [e4]; go_wp2_with fail
 go_ret
 exact ⟨by rw [or_sgn]; rfl, HO.out.trans0 hRR1⟩
end Go.Proofs.Ytfeglnpmpgipiaa
end
section
set_option linter.unusedVariables false
set_option maxRecDepth 100000
namespace Go.Proofs.Ytfeglnpmpgipiaa
open Go.RowKit Go.Shelf
attribute [local go_sem] Oper.semAt_some
theorem Small.of_cat {L L' : LCat} (h : Small L) (hc : L'.cat = L.cat) : Small L' := by
 have hb : L'.bs.map LBk.b = L.bs.map LBk.b := congrArg Cat.bucks hc; have hf : L'.fs = L.fs := congrArg Cat.floors hc; refine ⟨?_, by rw [hf]; exact h.f, fun b hm => ?_⟩
 ·have := congrArg List.length hb; rw [List.length_map, List.length_map] at this; rw [this]; exact h.b
 ·have h1 : b.b ∈ L.bs.map LBk.b := (by rw [← hb]; exact List.mem_map_of_mem hm); obtain ⟨b2, h2, h3⟩ := List.mem_map.1 h1; obtain ⟨e1, e2, e3, e4⟩ := h.o b2 h2; have ho : b2.os.map (·.o) = b.os.map (·.o) := congrArg CBuck.objs h3; have hu : b2.us.map (·.u) = b.us.map (·.u) := congrArg CBuck.upls h3; refine ⟨?_, ?_, fun x hx => ?_, fun x hx => ?_⟩
  ·have := congrArg List.length ho; simp only [List.length_map] at this; omega
  ·have := congrArg List.length hu; simp only [List.length_map] at this; omega
  ·have : x.o ∈ b2.os.map (·.o) := (by rw [ho]; exact List.mem_map_of_mem hx); obtain ⟨y, hy, he⟩ := List.mem_map.1 this; rw [← he]; exact e3 y hy
  ·have : x.u ∈ b2.us.map (·.u) := (by rw [hu]; exact List.mem_map_of_mem hx); obtain ⟨y, hy, he⟩ := List.mem_map.1 this; rw [← he]; exact e4 y hy
theorem results_tmp1 {fn : Func} {t : Tmp} (h : fn.results = #[.tmp t]) (tmps : Array Value) (P : Program) (w : World) : (results fn tmps).run P w = .ok (tmps.getD t undef) w := by
 simp [results, h]
theorem spareL_snoc {fs : List Cid} {ps : List Pc} {files : List Cid} {i : Nat} {x : Cid} (h : files[i]? = some x) : spareL fs ps (files.take (i + 1)) = spareL fs ps (files.take i) ++ (if mayGo fs ps x = true then [x] else []) := by
 unfold spareL; rw [List.take_add_one, h, List.filter_append]
 by_cases hm : mayGo fs ps x = true
 ·simp [hm]
 ·simp [hm]
theorem addS_mem (ids : List Cid) (x y : Cid) : y ∈ addS ids x ↔ y ∈ ids ∨ y = x := by
 unfold addS
 split
 ·constructor
  ·exact .inl
  ·rintro (h | rfl)
   ·exact h
   ·assumption
 ·simp
set_option maxHeartbeats 16000000 in
theorem spare_any (L : LCat) (p : Option Addr) (n c : Nat) (files : List Cid) (w0 : World) (hA : CatAt w0 L) (hs : Small L) (hso : SortB Cid.node ltZ L.fs) (hn : files.length = n) (hnb : n ≤ 1000000) (hp : p = none → n = 0 ∧ c = 0) (hx : Rd w0 p (files.flatMap idCells)) :
  Calls Try.prog 9 #[lcV L, .slice p n c] w0 fun e w' => ∃ q m k, e = .returned (.slice q m k) ∧ OwnK w' w0.heap.size 31 3 (.slice q m k) m ((spareL L.fs (catPcs L.cat) files).flatMap idCells) ∧ (spareL L.fs (catPcs L.cat) files).length = m ∧ Only [] w0 w' := by
 obtain ⟨w1, hw1⟩ : ∃ w1, w1 = w0.alloc (.cells #[.slice L.pb L.bs.length L.cb, .slice L.pf L.fs.length L.cf] 27) := ⟨_, rfl⟩; obtain ⟨w2, hw2⟩ : ∃ w2, w2 = w1.alloc (.map #[] 0) := ⟨_, rfl⟩; obtain ⟨w3, hw3⟩ : ∃ w3, w3 = w2.alloc (.cells #[.map (some w1.heap.size)] 51) := ⟨_, rfl⟩; have o1 : Only [] w0 w1 := (by rw [hw1]; exact Only.alloc _ _); have o2 : Only [] w1 w2 := (by rw [hw2]; exact Only.alloc _ _); have o3 : Only [] w2 w3 := (by rw [hw3]; exact Only.alloc _ _); have r1 : Row w1 w0.heap.size 27 [.slice L.pb L.bs.length L.cb, .slice L.pf L.fs.length L.cf] := by rw [hw1]; exact Row.newOf _ _ _ _ rfl
 have s1 : IdSet w2 w1.heap.size [] := (by rw [hw2]; exact ⟨#[], 0, World.alloc_heap_new _ _, by simp, by simp⟩); have r3 : Row w3 w2.heap.size 51 [.map (some w1.heap.size)] := (by rw [hw3]; exact Row.newOf _ _ _ _ rfl); have z1 : w1.heap.size = w0.heap.size + 1 := (by rw [hw1]; simp); have z2 : w2.heap.size = w1.heap.size + 1 := (by rw [hw2]; simp); have z3 : w3.heap.size = w0.heap.size + 1 + 1 + 1 := (by rw [hw3, ← z1, ← z2]; simp); rw [z2, z1] at r3; rw [z1] at s1 hw3; have HR1 := Lib.hid ((r1.only0 o2).only0 o3); have HR3 := Lib.hid r3; have HS := Lib.hid (s1.only o3 (by simp)); have HO := Lib.hid ((o1.trans0 o2).trans0 o3)
 have c0 := HR1.out.cell (i := 0) rfl; have c1 := HR1.out.cell (i := 1) rfl; have hbl := blobs_any L w3 (hA.only0 HO.out) hs; have HA := Lib.hid hA; have HSm := Lib.hid hs; have Hso := Lib.hid hso; have Hn := Lib.hid hn; have Hx := Lib.hid hx; have Hz := Lib.hid z3; rw [hw2, hw1] at hw3; rw [hw3] at c0 c1; have Hw := Lib.hid hw3; unfold lcV at hbl ⊢; clear hA hs hso hn hx o1 o2 o3 r1 s1 r3 hw1 hw2 hw3 z1 z2 z3; have hmm : ∀ w, (Instr.makeMap 51 none).run Try.prog w = .ok (.map (some w.heap.size)) (w.alloc (.map #[] 0)) := fun _ => rfl; refine calls_of_marks Try.func9 rfl ?_; simp only [Try.ntmps9, List.size_toArray, List.length_cons, List.length_nil, Nat.reduceAdd, Nat.reduceSub, Array.replicate_succ, Array.replicate_zero, List.push_toArray, List.append_toArray, List.nil_append, List.cons_append]
 go_wp2_with fail; rw [← Hw.out]; refine hbl.mono ?_; clear hbl c0 c1 hmm Hw; rintro e wb ⟨g, L', rfl, hcat, hat, ob, hge⟩; have hsm := HSm.out.of_cat hcat; have Hat := Lib.hid hat; have Hb := Lib.hid ob; have Hge := Lib.hid hge; have Hbs := Lib.hid ob.size; have Hsm := Lib.hid hsm; have Hcat := Lib.hid hcat; unfold blobsF; clear hcat hat ob hge hsm; go_wp2_with fail
 refine wp_rangeD (xs := catPcs L'.cat) rfl (enters_of Try.func30 (by kernel_rfl) rfl) (blobs_seq Hat.out Hsm.out) Hat.out.lt (by rintro _ _ _ _ ⟨rfl, -⟩; rfl)
  (fun ys D w => D = [w0.heap.size + 1] ∧ Only [w0.heap.size + 1] wb w ∧ ∃ ids, IdSet w (w0.heap.size + 1) ids ∧ ∀ x, x ∈ ids ↔ x ∈ ys.map (·.blob)) (fun _ _ _ _ => False) [w0.heap.size + 1] ?hD0 ?hI (fun _ _ _ _ _ _ h => h.elim) ?h0 ?round ?done (fun _ _ _ _ h => h.elim)
 case hD0 =>
  intro d hd; obtain rfl := List.mem_singleton.1 hd; have h1 := Hz.out; have h2 := Hbs.out; exact ⟨fun hm => by have := Hge.out _ hm; omega, by omega⟩
 case hI =>
  rintro ys D A B T ⟨rfl, ho, ids, hid, hm⟩ hT h1; exact ⟨rfl, ho.trans hT (fun i hi hlt => by have := (h1 i hi).2; omega), ids, hid.only hT (fun hc => (h1 _ hc).1 (by simp)), hm⟩
 case h0 => exact ⟨rfl, Only.refl _ _, [], HS.out.only Hb.out (by simp), by simp⟩
 case round =>
  rintro l ys x zs D A vs G hl1 hl2 hDG hG ⟨rfl, ho, ids, hid, hmem⟩ hxs ⟨rfl, rfl⟩; obtain ⟨A1, hA1⟩ : ∃ A1, A1 = A.alloc (.cells #[.int .i64 x.blob.node, .int .i64 x.blob.boot, .int .i64 x.blob.seq, .int .i64 x.size, .string (str x.etag)] 36) := ⟨_, rfl⟩; have oA : Only [] A A1 := (by rw [hA1]; exact Only.alloc _ _); have rA : Row A1 A.heap.size 36 [.int .i64 x.blob.node, .int .i64 x.blob.boot, .int .i64 x.blob.seq, .int .i64 x.size, .string (str x.etag)] := (by rw [hA1]; exact Row.newOf _ _ _ _ rfl); have hz := Hz.out; have hbs := Hbs.out; have hns := ho.size; have HoA := Lib.hid oA; have HrA := Lib.hid rA
  have HA1 := Lib.hid hA1; have Hl1 := Lib.hid hl1; have Hl2 := Lib.hid hl2; have Hid0 := Lib.hid hid; have Hmem := Lib.hid hmem; have Ho := Lib.hid ho; unfold pcV; clear oA rA hA1 hl1 hl2 hid hmem ho hDG hG hxs hz hbs hns
  gi_wp2_with fail
  rw [← HA1.out]; refine ⟨HoA.out, fun A2 o2 hs2 => ?_⟩; have hz := Hz.out; have hbs := Hbs.out; have hl1 := Hl1.out; have hl2 := Hl2.out; have rA2 := HrA.out.only o2 (by simp; omega); have ob2 : Only [l] A A2 := (HoA.out.mono (by simp)).trans o2 (fun i hi _ => hi); have p0 := rA2.cell (i := 0) rfl; have p1 := rA2.cell (i := 1) rfl; have p2 := rA2.cell (i := 2) rfl; have cm := (((HR3.out.only0 Hb.out).only Ho.out (by simp)).only ob2 (by simp; omega)).cell (i := 0) rfl; have hid2 := Hid0.out.only ob2 (by simp; omega); have had := setAdd_any _ ids x.blob A2 hid2; have Hob2 := Lib.hid ob2; have H2s := Lib.hid (And.intro hbs ob2.size)
  unfold idV at had; clear rA2 ob2 hid2 o2 hs2 hz hbs hl1 hl2
  gi_wp2_with fail
  (with_reducible refine ⟨wideFn _, inR (had) ?_⟩); rintro e A3 ⟨⟨v, rfl⟩, hid3, o3⟩; clear had p0 p1 p2 cm
  have HE : Hid (∃ S D', Only S A2 A3 ∧ (∀ s ∈ S, s ∈ [w0.heap.size + 1] ++ [] ∨ A.heap.size ≤ s) ∧ (∀ d ∈ D', (d ∈ [w0.heap.size + 1] ++ [] ∨ A.heap.size ≤ d) ∧ d < A3.heap.size) ∧ D' = [w0.heap.size + 1] ∧ Only [w0.heap.size + 1] wb A3 ∧ ∃ ids, IdSet A3 (w0.heap.size + 1) ids ∧ ∀ y, y ∈ ids ↔ y ∈ (ys ++ [x]).map (·.blob)) := Lib.hid (by
   refine ⟨_, _, o3, fun s hs => .inl (by simpa using hs), fun d hd => ⟨.inl (by simpa using hd), by obtain rfl := List.mem_singleton.1 hd; exact hid3.lt⟩, rfl, ?_, _, hid3, fun y => ?_⟩
   ·refine (Ho.out.trans Hob2.out (fun i hi hlt => ?_)).trans o3 (fun i hi _ => hi); obtain rfl := List.mem_singleton.1 hi; have := Hl1.out; omega
   ·rw [addS_mem, Hmem.out y]; simp)
  clear hid3 o3
  gi_wp2_with fail
  exact HE.out
 case done =>
  rintro D B ⟨rfl, ho, ids, hid, hmem⟩ hd hk; have hnb0 : Only [w0.heap.size + 1] w0 B := ((HO.out.mono (by simp)).trans Hb.out (by simp)).trans ho (fun i hi _ => hi); have hz := Hz.out; have hbs := Hbs.out; have HOB : Hid (Only [] w0 B) := Lib.hid (((HO.out.trans0 Hb.out).transN ho (by simp))); have HAB := Lib.hid (HA.out.only0 HOB.out); have HxB := Lib.hid (Hx.out.only0 HOB.out); have HR1B := Lib.hid ((HR1.out.only0 Hb.out).only ho (by simp)); have HR3B := Lib.hid ((HR3.out.only0 Hb.out).only ho (by simp)); have Hk := Lib.hid hk; have Hid1 := Lib.hid hid; have Hmm : Hid (∀ x, x ∈ ids ↔ x ∈ (catPcs L.cat).map (·.blob)) := Lib.hid (by rw [← Hcat.out]; exact hmem)
  have HBs : Hid (w0.heap.size + 1 + 1 + 1 ≤ wb.heap.size ∧ wb.heap.size < B.heap.size) := Lib.hid ⟨by omega, (Array.getElem?_eq_some_iff.1 hk).1⟩; have hst : Hid (∃ k : Nat, OwnK B B.heap.size 31 3 (.slice none 0 0) 0 ([].flatMap idCells)) := Lib.hid ⟨0, OwnK.nil _ _ _ _⟩; clear hnb0 hz hbs ho hid hmem hd hk; go_wp2_with fail
  go_loopw [7, 22] (fun b a wr => ∃ (i m : Nat) (q : Option Addr) (k : Nat), b = .slice q m k ∧ a = .int .i64 (i : Int) ∧ i ≤ n ∧ m ≤ i ∧ Hid (OwnK wr B.heap.size 31 3 (.slice q m k) m ((spareL L.fs (catPcs L.cat) (files.take i)).flatMap idCells)) ∧ Hid ((spareL L.fs (catPcs L.cat) (files.take i)).length = m) ∧ Hid (Only [] B wr)) (fun _ a _ => n - (intOf a).toNat)
  case atStart => exact ⟨0, 0, none, 0, rfl, rfl, Nat.zero_le _, Nat.le_refl _, Lib.hid (OwnK.nil _ _ _ _), Lib.hid rfl, Lib.hid (Only.refl _ _)⟩
  case round =>
   obtain ⟨i, m, q, k, rfl, rfl, hi, hmi, Hown, Hlen, HOl⟩ := hrel
   by_cases hlt : i < n
   ·obtain ⟨x, hxx⟩ : ∃ x, files[i]? = some x := ⟨_, List.getElem?_eq_getElem (by rw [Hn.out]; exact hlt)⟩; have hrd := HxB.out.only0 HOl.out; have hne : files.flatMap idCells ≠ [] := fun e' => (by have := flat_get idCells 3 idCells_len files _ x 0 hxx (by omega); rw [e'] at this; cases this); obtain ⟨b, off, rfl, -⟩ := hrd.lt hne; have x0 := rd_elem idCells_len hrd hxx (r := 0) rfl; have x1 := rd_elem idCells_len hrd hxx (r := 1) rfl; have x2 := rd_elem idCells_len hrd hxx (r := 2) rfl; rw [Addr.add_lit, ← Nat.add_assoc] at x0 x1 x2; rw [Nat.add_zero] at x0; obtain ⟨wt, hwt⟩ : ∃ wt, wt = wr.alloc (.cells #[.int .i64 x.node, .int .i64 x.boot, .int .i64 x.seq] 31) := ⟨_, rfl⟩
    have ot : Only [] wr wt := (by rw [hwt]; exact Only.alloc _ _); have rt : Row wt wr.heap.size 31 [.int .i64 x.node, .int .i64 x.boot, .int .i64 x.seq] := (by rw [hwt]; exact Row.newOf _ _ _ _ rfl); have y0 := rt.cell (i := 0) rfl; have oBt := HOl.out.trans0 ot; have rc := HR1B.out.only0 oBt; have b0 := rc.cell (i := 0) rfl; have b1 := rc.cell (i := 1) rfl; have hfl := floor_any L x.node wt (HAB.out.only0 oBt) Hso.out (Nat.le_trans HSm.out.f (by omega)); have Hfr : Hid (wr.heap.size < wt.heap.size) := Lib.hid rt.lt; have Hxx := Lib.hid hxx; have Hot := Lib.hid ot; have Hrt := Lib.hid rt; have Hwt := Lib.hid hwt
    rw [hwt] at y0 b0 b1; unfold lcV at hfl; clear hrd hne hxx ot rt hwt oBt rc; go_wp2_with fail; rw [← Hwt.out]; refine hfl.mono ?_; clear hfl b0 b1 x0 x1 x2 y0; rintro e wf ⟨rfl, of⟩; have Hsn := Lib.hid (spareL_snoc (fs := L.fs) (ps := catPcs L.cat) Hxx.out); obtain ⟨fo, hfo⟩ : ∃ fo, floorAt L.fs x.node = fo := ⟨_, rfl⟩; obtain ⟨f, hf⟩ : ∃ f, fo.getD id0 = f := ⟨_, rfl⟩; obtain ⟨wg, hwg⟩ : ∃ wg, wg = wf.alloc (.cells #[.int .i64 f.node, .int .i64 f.boot, .int .i64 f.seq] 31) := ⟨_, rfl⟩; have og : Only [] wf wg := (by rw [hwg]; exact Only.alloc _ _); have rg : Row wg wf.heap.size 31 [.int .i64 f.node, .int .i64 f.boot, .int .i64 f.seq] := by rw [hwg]; exact Row.newOf _ _ _ _ rfl
    have HOg := Lib.hid (((HOl.out.trans0 Hot.out).trans0 of).trans0 og); have HOg2 := Lib.hid (((Hot.out).trans0 of).trans0 og); have Hrg := Lib.hid rg; have Hrx := Lib.hid ((Hrt.out.only0 of).only0 og); have Hwg := Lib.hid hwg; have cm := (HR3B.out.only0 HOg.out).cell (i := 0) rfl; have y0 := Hrx.out.cell (i := 0) rfl; have y1 := Hrx.out.cell (i := 1) rfl; have y2 := Hrx.out.cell (i := 2) rfl; have hhs := setHas_any _ ids x wg (Hid1.out.only HOg.out (by simp)); unfold fiV idV; unfold idV at hhs; rw [hfo, hf]; rw [hwg] at cm y0 y1 y2
    cases hfo2 : fo.isSome with
    | false =>
     have hno : mayGo L.fs (catPcs L.cat) x = false := by
      unfold mayGo; rw [hfo]
      cases fo with
      | none => rfl
      | some _ => cases hfo2
     rw [hno, if_neg (by simp), List.append_nil] at Hsn; have hlen : Hid (OwnK wg B.heap.size 31 3 (.slice q m k) m ((spareL L.fs (catPcs L.cat) (files.take (i + 1))).flatMap idCells)) := Lib.hid (by rw [Hsn.out]; exact Hown.out.only0 HOg2.out); have hlen2 : Hid ((spareL L.fs (catPcs L.cat) (files.take (i + 1))).length = m) := Lib.hid (by rw [Hsn.out]; exact Hlen.out); clear hhs hno hfo2 hfo hf og rg of hwg Hown Hlen HOl; go_wp2_with fail; rw [← Hwg.out]; refine ⟨⟨i + 1, m, q, k, rfl, by go_num, by omega, by omega, hlen, hlen2, HOg⟩, ?_⟩; show n - ((i : Int) + 1).toNat < n - ((i : Int)).toNat; omega
    | true =>
     obtain rfl : fo = some f := by
      cases fo with
      | none => cases hfo2
      | some g => subst hf; rfl
     have Hmg : Hid (mayGo L.fs (catPcs L.cat) x = (decide (ltI x f) && !decide (x ∈ ids))) := Lib.hid (by
      unfold mayGo; rw [hfo]; show (decide (ltI x f) && !decide (x ∈ (catPcs L.cat).map (·.blob))) = _
      congr 2
      exact decide_eq_decide.2 (Hmm.out x).symm)
     clear hfo2 hfo hf og rg of hwg; go_wp2_with fail; rw [← Hwg.out]; refine hhs.mono ?_; clear hhs cm y0 y1 y2; rintro e wh ⟨rfl, oh⟩; have HOh := Lib.hid (HOg.out.trans0 oh); have HOh2 := Lib.hid (HOg2.out.trans0 oh); have Hrx1 := Lib.hid (Hrx.out.only0 oh); have Hrg1 := Lib.hid (Hrg.out.only0 oh); clear oh
     by_cases hin : x ∈ ids
     ·have hno : mayGo L.fs (catPcs L.cat) x = false := (by rw [Hmg.out, decide_eq_true hin]; simp); rw [decide_eq_true hin]; rw [hno, if_neg (by simp), List.append_nil] at Hsn; have hlen : Hid (OwnK wh B.heap.size 31 3 (.slice q m k) m ((spareL L.fs (catPcs L.cat) (files.take (i + 1))).flatMap idCells)) := Lib.hid (by rw [Hsn.out]; exact Hown.out.only0 HOh2.out); have hlen2 : Hid ((spareL L.fs (catPcs L.cat) (files.take (i + 1))).length = m) := Lib.hid (by rw [Hsn.out]; exact Hlen.out); have HOz := HOh; clear hno hin Hown Hlen HOl; go_wp2_with fail; refine ⟨⟨i + 1, m, q, k, rfl, by go_num, by omega, by omega, hlen, hlen2, HOz⟩, ?_⟩
      show n - ((i : Int) + 1).toNat < n - ((i : Int)).toNat; omega
     ·rw [decide_eq_false hin]; rw [decide_eq_false hin] at Hmg; have y0 := Hrx1.out.cell (i := 0) rfl; have y1 := Hrx1.out.cell (i := 1) rfl; have y2 := Hrx1.out.cell (i := 2) rfl; have g0 := Hrg1.out.cell (i := 0) rfl; have g1 := Hrg1.out.cell (i := 1) rfl; have g2 := Hrg1.out.cell (i := 2) rfl; have hcp := cmpId_any x f wh; unfold idV at hcp; clear hin; go_wp2_with fail; refine hcp.mono ?_; clear hcp y0 y1 y2 g0 g1 g2; rintro e wc ⟨rfl, oc⟩; have HOc := Lib.hid (HOh.out.trans0 oc); have HOc2 := Lib.hid (HOh2.out.trans0 oc); have Hrx2 := Lib.hid (Hrx1.out.only0 oc); clear oc; obtain ⟨sg, hsg⟩ : ∃ sg, sgn (decide (ltI x f)) (decide (x = f)) = sg := ⟨_, rfl⟩
      rw [hsg]
      by_cases hl : ltI x f
      ·have hneg : sg < 0 := (by rw [← hsg, decide_eq_true hl]; unfold sgn; simp); have hyes : mayGo L.fs (catPcs L.cat) x = true := (by rw [Hmg.out, decide_eq_true hl]; rfl); rw [hyes, if_pos rfl] at Hsn; have y0 := Hrx2.out.cell (i := 0) rfl; have y1 := Hrx2.out.cell (i := 1) rfl; have y2 := Hrx2.out.cell (i := 2) rfl; obtain ⟨p', k', w2, Hr, own2, o2, -⟩ := pushK (P := Try.prog) (f := idCells) (K := 3) (bytes := 24) (t := 23) (ty := 23) Try.underlying23 Try.infoId rfl (by omega) idCells_len idCells_one _ x (Hown.out.only0 HOc2.out) HOc.out.size (by omega) (by omega); have hlen : Hid (OwnK w2 B.heap.size 31 3 (.slice p' (m + 1) k') (m + 1) ((spareL L.fs (catPcs L.cat) (files.take (i + 1))).flatMap idCells)) := Lib.hid (by rw [Hsn.out]; exact own2)
       have hlen2 : Hid ((spareL L.fs (catPcs L.cat) (files.take (i + 1))).length = m + 1) := Lib.hid (by rw [Hsn.out, List.length_append, Hlen.out]; rfl); have HOz : Hid (Only [] B w2) := Lib.hid (HOc.out.transN o2 (fun t ht => (ownIn Hown.out _ ht).1)); unfold idCells at Hr; clear hl hsg hyes own2 o2 Hown Hlen HOl
       go_wp2_with (first | (at_builtin; refine wpl_append (s := .tmp 46) (x := .tmp 48) rfl rfl rfl rfl Hr.out ?_))
       refine ⟨⟨i + 1, m + 1, p', k', rfl, by go_num, by omega, by omega, hlen, hlen2, HOz⟩, ?_⟩; show n - ((i : Int) + 1).toNat < n - ((i : Int)).toNat; omega
      ·have hneg : ¬ sg < 0 := (by rw [← hsg, decide_eq_false hl]; unfold sgn; by_cases hxf : x = f <;> simp [hxf]); have hno : mayGo L.fs (catPcs L.cat) x = false := (by rw [Hmg.out, decide_eq_false hl]; rfl); rw [hno, if_neg (by simp), List.append_nil] at Hsn; have hlen : Hid (OwnK wc B.heap.size 31 3 (.slice q m k) m ((spareL L.fs (catPcs L.cat) (files.take (i + 1))).flatMap idCells)) := Lib.hid (by rw [Hsn.out]; exact Hown.out.only0 HOc2.out); have hlen2 : Hid ((spareL L.fs (catPcs L.cat) (files.take (i + 1))).length = m) := Lib.hid (by rw [Hsn.out]; exact Hlen.out); have HOz := HOc; clear hl hsg hno Hown Hlen HOl
       go_wp2_with fail; refine ⟨⟨i + 1, m, q, k, rfl, by go_num, by omega, by omega, hlen, hlen2, HOz⟩, ?_⟩; show n - ((i : Int) + 1).toNat < n - ((i : Int)).toNat; omega
   ·obtain rfl : i = n := (by omega); have HE := Lib.hid (And.intro Hown.out (And.intro Hlen.out HOl.out)); rw [List.take_of_length_le (by rw [Hn.out]; exact Nat.le_refl _)] at HE; clear Hown Hlen HOl; go_wp2_with fail; refine mretL [wb.heap.size] _ (by simp) (fun d hd => ?_) (fun w' ho => ⟨_, results_tmp1 rfl _ _ _, q, m, k, rfl, ?_, HE.out.2.1, ?_⟩)
    ·obtain rfl := List.mem_singleton.1 hd; exact (HE.out.2.2.block _ HBs.out.2 (by simp)).trans Hk.out
    ·exact (HE.out.1.onlyB ho (fun z hz hm => by
      obtain rfl := List.mem_singleton.1 hm
      have := (ownIn HE.out.1 _ hz).1; have := HBs.out.2; omega)).weaken HOB.out.size
    ·exact ((HOB.out.trans0 HE.out.2.2).transN ho (by simp; have := HBs.out.1; omega))
end Go.Proofs.Ytfeglnpmpgipiaa
end
section
set_option linter.unusedVariables false
set_option maxRecDepth 100000
namespace Go.Proofs.Ytfeglnpmpgipiaa
open Go.RowKit Go.Shelf
attribute [local go_sem] Oper.semAt_some
structure MissI (un : List Cid) (wb : World) (X R : Nat) (ys : List Pc) (D : List Nat) (w : World) (q : Option Addr) (m k : Nat) (ids : List Cid) : Prop where
 d : D = X :: R :: blk q
 rx : Row w X 32 [.slice q m k]
 set : IdSet w R ids
 mem : ∀ x, x ∈ ids ↔ x ∈ un ∨ x ∈ (missL un ys).map (·.blob)
 own : OwnK w wb.heap.size 36 5 (.slice q m k) m ((missL un ys).flatMap pcCells)
 len : (missL un ys).length = m
 lt : X < wb.heap.size ∧ R < wb.heap.size ∧ X ≠ R
 only : Only [X, R] wb w
theorem MissI.nq {un : List Cid} {wb w : World} {X R m k : Nat} {ys : List Pc} {D : List Nat} {q : Option Addr} {ids : List Cid} (h : MissI un wb X R ys D w q m k ids) : ∀ z ∈ blk q, wb.heap.size ≤ z ∧ z < w.heap.size := ownIn h.own
theorem MissI.only' {un : List Cid} {wb w w' : World} {X R m k : Nat} {ys : List Pc} {D T : List Nat} {q : Option Addr} {ids : List Cid} (h : MissI un wb X R ys D w q m k ids) (ho : Only T w w') (hT : ∀ t ∈ T, t ∉ D ∧ wb.heap.size ≤ t) : MissI un wb X R ys D w' q m k ids :=
 ⟨h.d, h.rx.only ho (fun hm => (hT X hm).1 (by rw [h.d]; simp)), h.set.only ho (fun hm => (hT R hm).1 (by rw [h.d]; simp)), h.mem, h.own.onlyB ho (fun z hz hm => (hT z hm).1 (by rw [h.d]; simp [hz])), h.len, h.lt,
  h.only.trans ho (fun i hi hlt => by have := (hT i hi).2; omega)⟩
set_option maxHeartbeats 16000000 in
theorem missing_any (L : LCat) (p : Option Addr) (n c : Nat) (un : List Cid) (w0 : World) (hA : CatAt w0 L) (hs : Small L) (hps : (catPcs L.cat).length ≤ 1000000) (hn : un.length = n) (hnb : n ≤ 1000000) (hx : Rd w0 p (un.flatMap idCells)) :
  Calls Try.prog 8 #[lcV L, .slice p n c] w0 fun e w' => ∃ q m k, e = .returned (.slice q m k) ∧ OwnK w' w0.heap.size 36 5 (.slice q m k) m ((missL un (catPcs L.cat)).flatMap pcCells) ∧ (missL un (catPcs L.cat)).length = m ∧ Only [] w0 w' := by
 obtain ⟨w1, hw1⟩ : ∃ w1, w1 = w0.alloc (.cells #[.slice L.pb L.bs.length L.cb, .slice L.pf L.fs.length L.cf] 27) := ⟨_, rfl⟩; obtain ⟨w2, hw2⟩ : ∃ w2, w2 = w1.alloc (.map #[] 0) := ⟨_, rfl⟩; obtain ⟨w3, hw3⟩ : ∃ w3, w3 = w2.alloc (.cells #[.map (some w1.heap.size)] 51) := ⟨_, rfl⟩; have o1 : Only [] w0 w1 := (by rw [hw1]; exact Only.alloc _ _); have o2 : Only [] w1 w2 := (by rw [hw2]; exact Only.alloc _ _); have o3 : Only [] w2 w3 := (by rw [hw3]; exact Only.alloc _ _); have r1 : Row w1 w0.heap.size 27 [.slice L.pb L.bs.length L.cb, .slice L.pf L.fs.length L.cf] := by rw [hw1]; exact Row.newOf _ _ _ _ rfl
 have s1 : IdSet w2 w1.heap.size [] := (by rw [hw2]; exact ⟨#[], 0, World.alloc_heap_new _ _, by simp, by simp⟩); have r3 : Row w3 w2.heap.size 51 [.map (some w1.heap.size)] := (by rw [hw3]; exact Row.newOf _ _ _ _ rfl); have z1 : w1.heap.size = w0.heap.size + 1 := (by rw [hw1]; simp); have z2 : w2.heap.size = w1.heap.size + 1 := (by rw [hw2]; simp); have z3 : w3.heap.size = w0.heap.size + 1 + 1 + 1 := (by rw [hw3, ← z1, ← z2]; simp); rw [z2, z1] at r3; rw [z1] at s1 hw3; have HR1 := Lib.hid ((r1.only0 o2).only0 o3); have HR3 := Lib.hid r3; have HS := Lib.hid (s1.only o3 (by simp)); have HO := Lib.hid ((o1.trans0 o2).trans0 o3)
 have HA0 := Lib.hid hA; have HSm := Lib.hid hs; have Hps := Lib.hid hps; have Hn := Lib.hid hn; have Hx0 := Lib.hid hx; have Hz := Lib.hid z3; rw [hw2, hw1] at hw3; have Hw := Lib.hid hw3; unfold lcV; clear hA hs hps hn hx o1 o2 o3 r1 s1 r3 hw1 hw2 hw3 z1 z2 z3; have hmm : ∀ w, (Instr.makeMap 51 none).run Try.prog w = .ok (.map (some w.heap.size)) (w.alloc (.map #[] 0)) := fun _ => rfl; refine calls_of_marks Try.func8 rfl ?_; simp only [Try.ntmps8, List.size_toArray, List.length_cons, List.length_nil, Nat.reduceAdd, Nat.reduceSub, Array.replicate_succ, Array.replicate_zero, List.push_toArray, List.append_toArray, List.nil_append, List.cons_append]
 go_wp2_with fail; rw [← Hw.out]; clear hmm Hw
 go_loopw [13] (fun a wr => ∃ (i : Nat) (ids : List Cid), a = .int .i64 (i : Int) ∧ i ≤ n ∧ Hid (IdSet wr (w0.heap.size + 1) ids ∧ ∀ x, x ∈ ids ↔ x ∈ un.take i) ∧ Hid (Only [w0.heap.size + 1] w3 wr)) (fun a _ => n - (intOf a).toNat)
 case atStart => exact ⟨0, [], rfl, Nat.zero_le _, Lib.hid ⟨HS.out, by simp⟩, Lib.hid (Only.refl _ _)⟩
 case round =>
  obtain ⟨i, ids, rfl, hi, Hid0, HOl⟩ := hrel
  by_cases hlt : i < n
  ·obtain ⟨x, hxx⟩ : ∃ x, un[i]? = some x := ⟨_, List.getElem?_eq_getElem (by rw [Hn.out]; exact hlt)⟩; have hO := HO.out.transN HOl.out (by simp); have hrd := Hx0.out.only0 hO; have hne : un.flatMap idCells ≠ [] := fun e' => (by have := flat_get idCells 3 idCells_len un _ x 0 hxx (by omega); rw [e'] at this; cases this); obtain ⟨b, off, rfl, -⟩ := hrd.lt hne; have x0 := rd_elem idCells_len hrd hxx (r := 0) rfl; have x1 := rd_elem idCells_len hrd hxx (r := 1) rfl; have x2 := rd_elem idCells_len hrd hxx (r := 2) rfl; rw [Addr.add_lit, ← Nat.add_assoc] at x0 x1 x2; rw [Nat.add_zero] at x0; obtain ⟨wt, hwt⟩ : ∃ wt, wt = wr.alloc (.cells #[.int .i64 x.node, .int .i64 x.boot, .int .i64 x.seq] 31) := ⟨_, rfl⟩
   have ot : Only [] wr wt := (by rw [hwt]; exact Only.alloc _ _); have rt : Row wt wr.heap.size 31 [.int .i64 x.node, .int .i64 x.boot, .int .i64 x.seq] := (by rw [hwt]; exact Row.newOf _ _ _ _ rfl); have y0 := rt.cell (i := 0) rfl; have y1 := rt.cell (i := 1) rfl; have y2 := rt.cell (i := 2) rfl; have cm := ((HR3.out.only HOl.out (by simp)).only0 ot).cell (i := 0) rfl; have had := setAdd_any _ ids x wt (Hid0.out.1.only ot (by simp)); have Hxx := Lib.hid hxx; have Hot := Lib.hid ot; have Hwt := Lib.hid hwt; rw [hwt] at y0 y1 y2 cm; unfold idV at had; clear hO hrd hne hxx ot rt hwt; go_wp2_with fail
   rw [← Hwt.out]; refine had.mono ?_; clear had x0 x1 x2 y0 y1 y2 cm; rintro e we ⟨⟨v, rfl⟩, hid3, o3⟩
   have HE : Hid (IdSet we (w0.heap.size + 1) (addS ids x) ∧ ∀ y, y ∈ addS ids x ↔ y ∈ un.take (i + 1)) := Lib.hid ⟨hid3, fun y => by
    rw [addS_mem, Hid0.out.2 y, take_snoc' Hxx.out]; simp⟩
   have HOe : Hid (Only [w0.heap.size + 1] w3 we) := Lib.hid ((HOl.out.trans (Hot.out.mono (by simp)) (fun i hi _ => hi)).trans o3 (fun i hi _ => hi)); clear hid3 o3; go_wp2_with fail; refine ⟨⟨i + 1, addS ids x, by go_num, by omega, HE, HOe⟩, ?_⟩; show n - ((i : Int) + 1).toNat < n - ((i : Int)).toNat; omega
  ·obtain rfl : i = n := (by omega); have hO := HO.out.transN HOl.out (by simp); obtain ⟨wx, hwx⟩ : ∃ wx, wx = wr.alloc (.cells #[.slice none 0 0] 32) := ⟨_, rfl⟩; have ox : Only [] wr wx := (by rw [hwx]; exact Only.alloc _ _); have rx : Row wx wr.heap.size 32 [.slice none 0 0] := (by rw [hwx]; exact Row.newOf _ _ _ _ rfl); have rc := (HR1.out.only HOl.out (by simp)).only0 ox; have c0 := rc.cell (i := 0) rfl; have c1 := rc.cell (i := 1) rfl; have hbl := blobs_any L wx (HA0.out.only0 (hO.trans0 ox)) HSm.out; have HOx := Lib.hid (hO.trans0 ox); have Hrx := Lib.hid rx; have Hmap := Lib.hid ((HR3.out.only HOl.out (by simp)).only0 ox)
   have Hidx := Lib.hid (Hid0.out.1.only ox (by simp))
   have Hmem : Hid (∀ x, x ∈ ids ↔ x ∈ un) := Lib.hid (by
    have h := Hid0.out.2
    rwa [List.take_of_length_le (by rw [Hn.out]; exact Nat.le_refl _)] at h)
   have Hwx := Lib.hid hwx; have Hlx : Hid (w0.heap.size + 1 + 1 + 1 ≤ wr.heap.size ∧ wr.heap.size < wx.heap.size) := Lib.hid ⟨by have := HOl.out.size; have := Hz.out; omega, rx.lt⟩; rw [hwx] at c0 c1; unfold lcV at hbl; clear hO ox rx rc hwx Hid0; go_wp2_with fail; rw [← Hwx.out]; refine hbl.mono ?_; clear hbl c0 c1 Hwx; rintro e wb ⟨g, L', rfl, hcat, hat, ob, hge⟩; have hsm := HSm.out.of_cat hcat; have Hat := Lib.hid hat; have Hb := Lib.hid ob; have Hge := Lib.hid hge; have Hsm := Lib.hid hsm; have Hcat := Lib.hid hcat; have Hbs := Lib.hid ob.size
   have HMI : Hid (MissI un wb wr.heap.size (w0.heap.size + 1) [] (wr.heap.size :: (w0.heap.size + 1) :: blk none) wb none 0 0 ids) := Lib.hid
    ⟨rfl, Hrx.out.only0 ob, Hidx.out.only ob (by simp), fun x => by rw [Hmem.out x]; simp [missL], OwnK.nil _ _ _ _, rfl, by have := Hlx.out; have := ob.size; omega, Only.refl _ _⟩
   unfold blobsF; clear hcat hat ob hge hsm; go_wp2_with fail
   refine wp_rangeD (xs := catPcs L'.cat) rfl (enters_of Try.func30 (by kernel_rfl) rfl) (blobs_seq Hat.out Hsm.out) Hat.out.lt (by rintro _ _ _ _ ⟨rfl, -⟩; rfl)
    (fun ys D w => ∃ q m k ids, MissI un wb wr.heap.size (w0.heap.size + 1) ys D w q m k ids) (fun _ _ _ _ => False) [wr.heap.size, w0.heap.size + 1] ?hD0 ?hI (fun _ _ _ _ _ _ h => h.elim) ⟨_, _, _, _, HMI.out⟩ ?round ?done (fun _ _ _ _ h => h.elim)
   case hD0 =>
    intro d hd; have h1 := Hlx.out; have h2 := Hbs.out
    simp at hd
    exact ⟨fun hm => by have := Hge.out _ hm; omega, by omega⟩
   case hI =>
    rintro ys D A B T ⟨q, m, k, ids, h⟩ ho hT; exact ⟨q, m, k, ids, h.only' ho hT⟩
   case done =>
    rintro D B ⟨q, m, k, ids, h⟩ hd hk; have hc := h.rx.cell (i := 0) rfl; have Hd0 := Lib.hid hd; have Hh := Lib.hid h; have Hk := Lib.hid hk; have hl : Hid (w0.heap.size ≤ wb.heap.size) := Lib.hid (by have := Hlx.out; have := Hbs.out; omega); have HOB : Hid (Only [] w0 B) := Lib.hid ((HOx.out.trans0 Hb.out).transN h.only (by have := Hlx.out; simp; omega)); clear h hd hk; go_wp2_with fail; refine mretL [wb.heap.size] B (by simp) (fun d hd => ?_) (fun w' ho => ⟨_, results_tmp1 rfl _ _ _, q, m, k, rfl, ?_, ?_, ?_⟩)
    ·obtain rfl := List.mem_singleton.1 hd; exact Hk.out
    ·rw [← Hcat.out]
     exact (Hh.out.own.onlyB ho (fun z hz hm => by
      obtain rfl := List.mem_singleton.1 hm
      exact (Hd0.out _ (by rw [Hh.out.d]; simp [hz])).1 rfl)).weaken hl.out
    ·rw [← Hcat.out]; exact Hh.out.len
    ·exact HOB.out.transN ho (by simp; exact hl.out)
   case round =>
    rintro l ys x zs D A vs G hl1 hl2 hDG hG ⟨q, m, k, ids, h⟩ hxs ⟨rfl, rfl⟩; obtain ⟨A1, hA1⟩ : ∃ A1, A1 = A.alloc (.cells #[.int .i64 x.blob.node, .int .i64 x.blob.boot, .int .i64 x.blob.seq, .int .i64 x.size, .string (str x.etag)] 36) := ⟨_, rfl⟩; have oA : Only [] A A1 := (by rw [hA1]; exact Only.alloc _ _); have rA : Row A1 A.heap.size 36 [.int .i64 x.blob.node, .int .i64 x.blob.boot, .int .i64 x.blob.seq, .int .i64 x.size, .string (str x.etag)] := by rw [hA1]; exact Row.newOf _ _ _ _ rfl
    have hmb : m ≤ 1000000 := by
     have h1 := missL_len un ys; rw [h.len] at h1; have h2 := Hps.out; rw [← Hcat.out, hxs] at h2
     simp at h2
     omega
    have HoA := Lib.hid oA; have HrA := Lib.hid rA; have HA1 := Lib.hid hA1; have Hl1 := Lib.hid hl1; have Hl2 := Lib.hid hl2; have HDG : Hid (∀ d ∈ D, d ≠ l ∧ d < A.heap.size) := Lib.hid (fun d hd => hDG d (by simp [hd])); have Hh := Lib.hid h; have Has := Lib.hid h.only.size; unfold pcV; clear oA rA hA1 hl1 hl2 hDG hG hxs h
    gi_wp2_with fail
    rw [← HA1.out]; refine ⟨HoA.out, fun A2 o2 hs2 => ?_⟩; have hl1 := Hl1.out; have hl2 := Hl2.out; have rA2 := HrA.out.only o2 (by simp; omega); have ob2 : Only [l] A A2 := (HoA.out.mono (by simp)).trans o2 (fun i hi _ => hi)
    have h2 := Hh.out.only' ob2 (fun t ht => by
     obtain rfl := List.mem_singleton.1 ht
     exact ⟨fun hm => (HDG.out _ hm).1 rfl, by omega⟩)
    have rm2 := (Hmap.out.only0 Hb.out).only h2.only (by have := Hlx.out; simp; omega); have p0 := rA2.cell (i := 0) rfl; have p1 := rA2.cell (i := 1) rfl; have p2 := rA2.cell (i := 2) rfl; have cm := rm2.cell (i := 0) rfl; have hhs := setHas_any _ ids x.blob A2 h2.set; have Hh2 := Lib.hid h2; have HrA2 := Lib.hid rA2; have Hrm2 := Lib.hid rm2; have Hob2 := Lib.hid ob2.size; unfold idV at hhs; clear rA2 ob2 h2 rm2 o2 hs2 hl1 hl2
    gi_wp2_with fail
    (with_reducible refine ⟨wideFn _, inR (hhs) ?_⟩); rintro e A3 ⟨rfl, oh⟩; clear hhs p0 p1 p2 cm; have h3 := Hh2.out.only' oh (by simp); have Hh3 := Lib.hid h3; have Hoh := Lib.hid oh; have Hsn := Lib.hid (missL_snoc un ys x)
    by_cases hin : x.blob ∈ ids
    ·rw [decide_eq_true hin]
     have HE : Hid (∃ S D', Only S A2 A3 ∧ (∀ s ∈ S, s ∈ D ++ [] ∨ A.heap.size ≤ s) ∧ (∀ d ∈ D', (d ∈ D ++ [] ∨ A.heap.size ≤ d) ∧ d < A3.heap.size) ∧ ∃ q m k ids, MissI un wb wr.heap.size (w0.heap.size + 1) (ys ++ [x]) D' A3 q m k ids) := Lib.hid (by
      have hm : missL un (ys ++ [x]) = missL un ys := by
       rw [Hsn.out]; unfold missS; rw [if_pos ((h3.mem _).1 hin)]
      refine ⟨[], D, oh, by simp, fun d hd => ⟨.inl (by simp [hd]), by have := (HDG.out d hd).2; have := Hob2.out; have := oh.size; omega⟩, q, m, k, ids, ⟨h3.d, h3.rx, h3.set, by rw [hm]; exact h3.mem, by rw [hm]; exact h3.own, by rw [hm]; exact h3.len, h3.lt, h3.only⟩⟩)
     clear h3 oh hin
     gi_wp2_with fail
     exact HE.out
    ·rw [decide_eq_false hin]
     have hm : missL un (ys ++ [x]) = missL un ys ++ [x] := by
      rw [Hsn.out]; unfold missS; rw [if_neg (fun hc => hin ((h3.mem _).2 hc))]
     have cx := h3.rx.cell (i := 0) rfl; have r3 := HrA2.out.only0 oh; have p0 := r3.cell (i := 0) rfl; have p1 := r3.cell (i := 1) rfl; have p2 := r3.cell (i := 2) rfl; have p3 := r3.cell (i := 3) rfl; have p4 := r3.cell (i := 4) rfl; have hlt3 := h3.lt; have hbs3 := h3.only.size; have hqn := h3.nq; obtain ⟨p', k', w2', Hr, own2, o2, hq⟩ := pushK (P := Try.prog) (f := pcCells) (K := 5) (t := 32) (ty := 32) Try.underlying32 Try.infoPc rfl (by omega) pcCells_len pcCells_one _ x h3.own hbs3 (by omega) (by omega); have rx2 := h3.rx.only o2 (fun hc => by have := (hqn _ hc).1; omega); have fx := rx2.free 0
     have cx2 := rx2.cell (i := 0) rfl; obtain ⟨A4, hA4⟩ : ∃ A4, A4 = w2'.setCell ⟨wr.heap.size, 0, none⟩ (.slice p' (m + 1) k') := ⟨_, rfl⟩; have o4 : Only [wr.heap.size] w2' A4 := (by rw [hA4]; exact Only.setCell w2' ⟨wr.heap.size, 0, none⟩ _); have rx4 : Row A4 wr.heap.size 32 [.slice p' (m + 1) k'] := (by rw [hA4]; simpa using rx2.setCell 0 (.slice p' (m + 1) k')); have hid4 := (h3.set.only o2 (fun hc => by have := (hqn _ hc).1; omega)).only o4 (by simp; omega); have rp4 := (r3.only o2 (fun hc => by have := (HDG.out A.heap.size (by rw [Hh.out.d]; simp [hc])).2; omega)).only o4 (by have := Has.out; simp; omega)
     have rm4 := ((Hrm2.out.only0 oh).only o2 (fun hc => by have := (hqn _ hc).1; have := Hlx.out; omega)).only o4 (by have := Hlx.out; simp; omega); have y0 := rp4.cell (i := 0) rfl; have y1 := rp4.cell (i := 1) rfl; have y2 := rp4.cell (i := 2) rfl; have cm := rm4.cell (i := 0) rfl; have had := setAdd_any _ ids x.blob A4 hid4
     have HE : Hid (∀ A5, IdSet A5 (w0.heap.size + 1) (addS ids x.blob) → Only [w0.heap.size + 1] A4 A5 → ∃ S D', Only S A2 A5 ∧ (∀ s ∈ S, s ∈ D ++ [] ∨ A.heap.size ≤ s) ∧ (∀ d ∈ D', (d ∈ D ++ [] ∨ A.heap.size ≤ d) ∧ d < A5.heap.size) ∧ ∃ q m k ids, MissI un wb wr.heap.size (w0.heap.size + 1) (ys ++ [x]) D' A5 q m k ids) := Lib.hid (by
      intro A5 hid5 o5; have hXR : wr.heap.size ∉ [w0.heap.size + 1] := (by simp; omega); have hp'lo := (ownIn own2); have hXp : wr.heap.size ∉ blk p' := fun hc => (by have := (hp'lo _ hc).1; omega); have hRp : w0.heap.size + 1 ∉ blk p' := fun hc => (by have := (hp'lo _ hc).1; omega); have hall : Only (wr.heap.size :: (w0.heap.size + 1) :: blk q) A3 A5 := ((o2.mono (by simp +contextual)).trans o4 (fun i hi _ => by simp at hi; simp [hi])).trans o5 (fun i hi _ => by simp at hi; simp [hi]); have hall2 : Only (wr.heap.size :: (w0.heap.size + 1) :: blk q) A2 A5 := (oh.mono (by simp)).trans hall (fun i hi _ => hi)
      have hD := Hh3.out.d; have hz5 := o5.size; have hz4 := o4.size; have hz3 := o2.size; have hz2 := oh.size; have hz1 := Hob2.out; refine ⟨_, wr.heap.size :: (w0.heap.size + 1) :: blk p', hall2, fun s hs => .inl (by rw [hD]; simpa using hs), fun d hd => ?_, p', m + 1, k', _, ⟨rfl, rx4.only o5 hXR, hid5, fun y => ?_, ?_, by rw [hm, List.length_append, Hh3.out.len]; rfl, hlt3, Hh3.out.only.trans hall (fun i hi hlt => ?_)⟩⟩
      ·simp only [List.mem_cons] at hd
       rcases hd with rfl | rfl | hd
       ·exact ⟨.inl (by rw [hD]; simp), Nat.lt_of_lt_of_le rx4.lt hz5⟩
       ·exact ⟨.inl (by rw [hD]; simp), hid5.lt⟩
       ·refine ⟨?_, by have := (hp'lo d hd).2; omega⟩
        rcases hq with rfl | ⟨g', rfl, hg'⟩
        ·exact .inl (by rw [hD]; simp [hd])
        ·simp [blk] at hd; subst hd; exact .inr (by omega)
      ·rw [addS_mem, hm, Hh3.out.mem y]; simp [or_assoc]
      ·rw [hm]; exact (own2.onlyB o4 (fun z hz hc => by obtain rfl := List.mem_singleton.1 hc; exact hXp hz)).onlyB o5 (fun z hz hc => by obtain rfl := List.mem_singleton.1 hc; exact hRp hz)
      ·simp only [List.mem_cons] at hi
       rcases hi with rfl | rfl | hi
       ·simp
       ·simp
       ·have := (hqn i hi).1; omega)
     have HA4 := Lib.hid hA4; rw [hA4] at y0 y1 y2 cm; unfold pcCells at Hr; unfold idV at had; clear h3 oh hin hm r3 hlt3 hbs3 hqn own2 o2 hq rx2 hA4 o4 rx4 hid4 rp4 rm4
     gi_wp2_with (first | (gi_at_builtin; refine wpli_append (s := .tmp 29) (x := .tmp 31) (fun _ => trivial) rfl rfl rfl rfl Hr.out ?_))
     rw [← HA4.out]; (with_reducible refine ⟨wideFn _, inR (had) ?_⟩); rintro e A5 ⟨⟨v, rfl⟩, hid5, o5⟩; clear had p0 p1 p2 p3 p4 y0 y1 y2 cm cx cx2 fx Hr; have HE5 := Lib.hid (HE.out A5 hid5 o5); clear hid5 o5
     gi_wp2_with fail
     exact HE5.out
end Go.Proofs.Ytfeglnpmpgipiaa
end
section
set_option linter.unusedVariables false
set_option maxRecDepth 100000
namespace Go.Proofs.Ytfeglnpmpgipiaa
open Go.RowKit
def OutP (w0 w : World) (q : Option Addr) (m k : Nat) (ps : List Pc) : Prop := OwnK w w0.heap.size 36 5 (.slice q m k) m (ps.flatMap pcCells) ∧ ps.length = m ∧ Only [] w0 w
theorem OutP.only0 {w0 w w' : World} {q : Option Addr} {m k : Nat} {ps : List Pc} (h : OutP w0 w q m k ps) (ho : Only [] w w') : OutP w0 w' q m k ps := ⟨h.1.only0 ho, h.2.1, h.2.2.trans0 ho⟩
theorem OutP.app {w0 w : World} {q pq : Option Addr} {m k r c : Nat} {ps news : List Pc} (h : OutP w0 w q m k ps) (hr : Rd w pq (news.flatMap pcCells)) (hl : news.length = r) (hq : pq = none → r = 0 ∧ c = 0) (hb : m + r ≤ 1000000) :
  ∃ q' k' w2, Hid ((Builtin.append_ #[32, 32] 32 #[.slice q m k, .slice pq r c]).run Try.prog w = .ok (.slice q' (m + r) k') w2) ∧ OutP w0 w2 q' (m + r) k' (ps ++ news) ∧ Only (blk q) w w2 ∧ (∀ z ∈ blk q', z ∈ blk q ∨ w.heap.size ≤ z) := by
 obtain ⟨p', c', w2, hr2, o2, h2⟩ := appendK (P := Try.prog) (t := 32) (ty := 32) w Try.underlying32 Try.infoPc rfl (by omega) h.1 hr (by rw [flat_length pcCells 5 pcCells_len, hl]) hq (fun u hu => flat_one pcCells pcCells_one hu) (by omega) (by omega) h.2.2.size; have hat := appendK_at (P := Try.prog) (t := 32) (ty := 32) w Try.underlying32 Try.infoPc rfl (by omega) h.1 hr (by rw [flat_length pcCells 5 pcCells_len, hl]) hq (fun u hu => flat_one pcCells pcCells_one hu) (by omega) (by omega) hr2; refine ⟨p', c', w2, Lib.hid hr2, ⟨by rw [List.flatMap_append]; exact o2, by rw [List.length_append, h.2.1, hl], h.2.2.transN h2 (fun t ht => (ownIn h.1 _ ht).1)⟩, h2, fun z hz => ?_⟩
 rcases hat with rfl | ⟨g, rfl, hg⟩
 ·exact .inl hz
 ·simp [blk] at hz; subst hz; exact .inr hg
theorem take_flat_le {β γ : Type} (g : β → List γ) (xs : List β) (i : Nat) : ((xs.take i).flatMap g).length ≤ (xs.flatMap g).length := by
 conv => rhs; rw [← List.take_append_drop i xs, List.flatMap_append, List.length_append]
 omega
theorem catPcs_eq' (L : LCat) : catPcs L.cat = L.bs.flatMap (fun b => bkPcs b.b) := by
 unfold catPcs LCat.cat; rw [List.flatMap_map]
set_option maxHeartbeats 16000000 in
theorem ref11Blobs_any (L : LCat) (w0 : World) (hA : CatAt w0 L) (hs : Small L) (hps : (catPcs L.cat).length ≤ 1000000) :
  Calls Try.prog 13 #[lcV L] w0 fun e w' => ∃ q m k, e = .returned (.slice q m k) ∧ OutP w0 w' q m k (catPcs L.cat) := by
 rw [catPcs_eq'] at hps ⊢; obtain ⟨n, hn⟩ : ∃ n, L.bs.length = n := ⟨_, rfl⟩; obtain ⟨pb, hpb⟩ : ∃ pb, L.pb = pb := ⟨_, rfl⟩; obtain ⟨w1, hw1⟩ : ∃ w1, w1 = w0.alloc (.cells #[.slice pb n L.cb, .slice L.pf L.fs.length L.cf] 27) := ⟨_, rfl⟩; obtain ⟨w2, hw2⟩ : ∃ w2, w2 = w1.alloc (.cells #[] 36) := ⟨_, rfl⟩; have o1 : Only [] w0 w1 := (by rw [hw1]; exact Only.alloc _ _); have o2 : Only [] w1 w2 := (by rw [hw2]; exact Only.alloc _ _); have s1 : w1.heap.size = w0.heap.size + 1 := (by rw [hw1]; simp); have r1 : Row w2 w0.heap.size 27 [.slice pb n L.cb, .slice L.pf L.fs.length L.cf] := (show Row w1 w0.heap.size 27 [.slice pb n L.cb, .slice L.pf L.fs.length L.cf] by rw [hw1]; exact Row.newOf _ _ _ _ rfl).only0 o2
 have ow : OwnK w2 w1.heap.size 36 5 (.slice (some ⟨w1.heap.size, 0, none⟩) 0 0) 0 [] := (by rw [hw2]; exact OwnK.new (K := 5) (n := 0) [] (Nat.le_refl _) rfl (by omega)); have HI0 : Hid (OutP w0 w2 (some ⟨w0.heap.size + 1, 0, none⟩) 0 0 []) := Lib.hid ⟨by rw [← s1]; exact ow.weaken (by omega), rfl, o1.trans0 o2⟩; have c0 := r1.cell (i := 0) rfl; rw [s1] at ow; rw [hw1] at hw2; have Hw := Lib.hid hw2; have HA := Lib.hid hA; have Hs := Lib.hid hs; have Hps := Lib.hid hps; have Hn := Lib.hid hn; have Hpb := Lib.hid hpb; have hn5 : n ≤ 100000 := (by rw [← hn]; exact hs.b); rw [hw2] at c0; unfold lcV
 rw [hn, hpb]; clear hA hs hps hn hpb o1 o2 s1 r1 ow hw1 hw2
 go_enter Try.func13, Try.ntmps13
 go_wp2_with fail; rw [← Hw.out]; clear Hw c0
 go_loopw [3, 16] (fun b a wr => ∃ (i m : Nat) (q : Option Addr) (k : Nat), b = .slice q m k ∧ a = .int .i64 (i : Int) ∧ i ≤ n ∧ Hid (OutP w0 wr q m k ((L.bs.take i).flatMap (fun b => bkPcs b.b)))) (fun _ a _ => n - (intOf a).toNat)
 case atStart => exact ⟨0, 0, _, 0, rfl, rfl, Nat.zero_le _, HI0⟩
 case round =>
  clear HI0; obtain ⟨i, m, q, k, rfl, rfl, hi, HI⟩ := hrel
  by_cases hlt : i < n
  ·obtain ⟨b, hbb⟩ : ∃ b, L.bs[i]? = some b := ⟨_, List.getElem?_eq_getElem (by rw [Hn.out]; exact hlt)⟩; have hA := HA.out.only0 HI.out.2.2; have hrd := hA.sb.1; have hne : L.bs.flatMap lbCells ≠ [] := fun e' => (by have := flat_get lbCells 5 lbCells_len L.bs _ b 0 hbb (by omega); rw [e'] at this; cases this); obtain ⟨g, off, hg, -⟩ := hrd.lt hne; rw [hg] at hrd; obtain rfl : pb = some _ := Hpb.out.symm.trans hg; have d0 := rd_elem lbCells_len hrd hbb (r := 0) rfl; have d1 := rd_elem lbCells_len hrd hbb (r := 1) rfl; have d2 := rd_elem lbCells_len hrd hbb (r := 2) rfl; have d3 := rd_elem lbCells_len hrd hbb (r := 3) rfl
   have d4 := rd_elem lbCells_len hrd hbb (r := 4) rfl; rw [Addr.add_lit, ← Nat.add_assoc] at d0 d1 d2 d3 d4; rw [Nat.add_zero] at d0; have hmem := List.mem_of_getElem? hbb; obtain ⟨po, hpo⟩ : ∃ po, b.po = po := ⟨_, rfl⟩; obtain ⟨pu, hpu⟩ : ∃ pu, b.pu = pu := ⟨_, rfl⟩; obtain ⟨no, hno⟩ : ∃ no, b.os.length = no := ⟨_, rfl⟩; obtain ⟨nu, hnu⟩ : ∃ nu, b.us.length = nu := ⟨_, rfl⟩; have hso := Hs.out.o b hmem; rw [hno, hnu] at hso; obtain ⟨hno5, hnu5, H3', H4'⟩ := hso; rw [hpo, hno] at d3; rw [hpu, hnu] at d4; obtain ⟨wt, hwt⟩ : ∃ wt, wt = wr.alloc (.cells #[.string (str b.name), .int .i64 b.time, .int .i64 b.days, .slice po no b.co, .slice pu nu b.cu] 63) := ⟨_, rfl⟩
   have ot : Only [] wr wt := (by rw [hwt]; exact Only.alloc _ _); have rt : Row wt wr.heap.size 63 [.string (str b.name), .int .i64 b.time, .int .i64 b.days, .slice po no b.co, .slice pu nu b.cu] := (by rw [hwt]; exact Row.newOf _ _ _ _ rfl); have e3 := rt.cell (i := 3) rfl; have Hrt := Lib.hid rt; have Hbk0 := Lib.hid (HA.out.bk b hmem); have HN : wr.heap.size ∉ blk q := fun hc => (by have := (ownIn HI.out.1 _ hc).2; omega); have Hbox : Hid (wr.heap.size ∉ blk q) := Lib.hid HN; clear HN; have HIt : Hid (OutP w0 wt q m k ((L.bs.take i).flatMap (fun b => bkPcs b.b) ++ (b.os.take 0).flatMap (fun x => x.o.pcs))) := Lib.hid (by rw [List.take_zero, List.flatMap_nil, List.append_nil]; exact HI.out.only0 ot)
   have Hle : Hid (∀ ys zs, bkPcs b.b = ys ++ zs → ((L.bs.take i).flatMap (fun b => bkPcs b.b) ++ ys).length ≤ 1000000) := Lib.hid (fun ys zs he => by
    have h1 := take_flat_le (fun b : LBk => bkPcs b.b) L.bs (i + 1); rw [flat_succ hbb, he] at h1; have h2 := Hps.out; simp only [List.length_append] at h1 ⊢
    omega)
   have Hbb := Lib.hid hbb; have Hpo := Lib.hid hpo; have Hpu := Lib.hid hpu; have Hno := Lib.hid hno; have Hnu := Lib.hid hnu; have H3 := Lib.hid H3'; have H4 := Lib.hid H4'; have Hwt := Lib.hid hwt; rw [hwt] at e3; clear hA hrd hne hg hbb hmem hpo hpu hno hnu H3' H4' ot rt hwt HI; go_wp2_with fail; rw [← Hwt.out]; clear d0 d1 d2 d3 d4 e3 Hwt; obtain ⟨bx, hbx⟩ : ∃ bx, wr.heap.size = bx := ⟨_, rfl⟩; rw [hbx] at Hrt Hbox ⊢; clear hbx
   go_loopw [3, 23] (fun b2 a wl => ∃ (j m : Nat) (q : Option Addr) (k : Nat), b2 = .slice q m k ∧ a = .int .i64 (j : Int) ∧ j ≤ no ∧ Hid (OutP w0 wl q m k ((L.bs.take i).flatMap (fun b => bkPcs b.b) ++ (b.os.take j).flatMap (fun x => x.o.pcs))) ∧ Hid (Row wl bx 63 [.string (str b.name), .int .i64 b.time, .int .i64 b.days, .slice po no b.co, .slice pu nu b.cu]) ∧ Hid (bx ∉ blk q)) (fun _ a _ => no - (intOf a).toNat)
   case atStart => exact ⟨0, m, q, k, rfl, rfl, Nat.zero_le _, HIt, Hrt, Hbox⟩
   case round =>
    clear HIt Hrt Hbox; obtain ⟨j, m, q, k, rfl, rfl, hj, HI, Hrt, Hbox⟩ := hrel
    by_cases hlj : j < no
    ·obtain ⟨x, hxx⟩ : ∃ x, b.os[j]? = some x := ⟨_, List.getElem?_eq_getElem (by rw [Hno.out]; exact hlj)⟩; have hbk := Hbk0.out.only0 HI.out.2.2; have hrd := hbk.so.1; have hne : b.os.flatMap loCells ≠ [] := fun e' => (by have := flat_get loCells 5 loCells_len b.os _ x 0 hxx (by omega); rw [e'] at this; cases this); obtain ⟨g2, off2, hg, -⟩ := hrd.lt hne; rw [hg] at hrd; obtain rfl : po = some _ := Hpo.out.symm.trans hg; have d0 := rd_elem loCells_len hrd hxx (r := 0) rfl; have d1 := rd_elem loCells_len hrd hxx (r := 1) rfl; have d2 := rd_elem loCells_len hrd hxx (r := 2) rfl; have d3 := rd_elem loCells_len hrd hxx (r := 3) rfl
     have d4 := rd_elem loCells_len hrd hxx (r := 4) rfl; rw [Addr.add_lit, ← Nat.add_assoc] at d0 d1 d2 d3 d4; rw [Nat.add_zero] at d0; have hxm := List.mem_of_getElem? hxx; obtain ⟨r, hr⟩ : ∃ r, x.o.pcs.length = r := ⟨_, rfl⟩; obtain ⟨wv, hwv⟩ : ∃ wv, wv = wr.alloc (.cells #[.string (str x.o.key), .int .i64 x.o.size, .string (str x.o.etag), .int .i64 x.o.time, .slice x.q r x.c] 65) := ⟨_, rfl⟩; have ov : Only [] wr wv := (by rw [hwv]; exact Only.alloc _ _); have rv : Row wv wr.heap.size 65 [.string (str x.o.key), .int .i64 x.o.size, .string (str x.o.etag), .int .i64 x.o.time, .slice x.q r x.c] := by rw [hwv]; exact Row.newOf _ _ _ _ rfl
     have e4 := rv.cell (i := 4) rfl; have hob := (hbk.ob x hxm).only0 ov; unfold ObAt at hob; rw [hr] at hob d4
     have hlen : m + r ≤ 1000000 := by
      obtain ⟨zs, hz⟩ : ∃ zs, bkPcs b.b = (b.os.take (j + 1)).flatMap (fun x => x.o.pcs) ++ zs := ⟨(b.os.drop (j + 1)).flatMap (fun x => x.o.pcs) ++ pcsU b, by
       rw [bkPcs_eq, ← List.append_assoc, ← List.flatMap_append, List.take_append_drop]; rfl⟩
      have h1 := Hle.out _ _ hz; rw [flat_succ hxx, ← List.append_assoc, List.length_append, HI.out.2.1, hr] at h1; exact h1
     obtain ⟨q', k', w2, Hr, hO2, oq, hq'⟩ := (HI.out.only0 ov).app hob.1 hr hob.2.1 hlen; have Hrt2 := Lib.hid ((Hrt.out.only0 ov).only oq Hbox.out); have Hbox2 : Hid (bx ∉ blk q') := Lib.hid (fun hc => (hq' _ hc).elim Hbox.out (fun h => by have := Hrt.out.lt; have := ov.size; omega)); have HO2 : Hid (OutP w0 w2 q' (m + r) k' ((L.bs.take i).flatMap (fun b => bkPcs b.b) ++ (b.os.take (j + 1)).flatMap (fun x => x.o.pcs))) := Lib.hid (by rw [flat_succ hxx, ← List.append_assoc]; exact hO2); have HR2 : Hid ((Builtin.append_ #[32, 32] 32 #[.slice q m k, .slice x.q r x.c]).run Try.prog (wr.alloc (.cells #[.string (str x.o.key), .int .i64 x.o.size, .string (str x.o.etag), .int .i64 x.o.time, .slice x.q r x.c] 65)) = .ok (.slice q' (m + r) k') w2) := Lib.hid (by rw [← hwv]; exact Hr.out)
     rw [hwv] at e4; clear hbk hrd hne hg hxx hxm hr hwv ov rv hob hlen Hr hO2 oq hq' Hrt Hbox HI
     go_wp2_with (first | (at_builtin; refine wpl_append (s := .tmp 27) (x := .tmp 29) rfl rfl rfl rfl HR2.out ?_))
     refine ⟨⟨j + 1, m + r, q', k', rfl, by go_num, by omega, HO2, Hrt2, Hbox2⟩, ?_⟩; show no - ((j : Int) + 1).toNat < no - ((j : Int)).toNat; omega
    ·obtain rfl : j = no := (by omega); have e4 := Hrt.out.cell (i := 4) rfl
     have HJ : Hid (OutP w0 wr q m k (((L.bs.take i).flatMap (fun b => bkPcs b.b) ++ pcsO b) ++ (b.us.take 0).flatMap (fun x => x.u.parts.map (·.pc)))) := Lib.hid (by
      have h := HI.out; rw [List.take_of_length_le (l := b.os) (by rw [Hno.out]; exact Nat.le_refl _)] at h; rw [List.take_zero, List.flatMap_nil, List.append_nil]
      exact h)
     clear HI Hrt Hbox; go_wp2_with fail; clear e4
     go_loopw [3, 35] (fun b2 a wl => ∃ (f m : Nat) (q : Option Addr) (k : Nat), b2 = .slice q m k ∧ a = .int .i64 (f : Int) ∧ f ≤ nu ∧ Hid (OutP w0 wl q m k (((L.bs.take i).flatMap (fun b => bkPcs b.b) ++ pcsO b) ++ (b.us.take f).flatMap (fun x => x.u.parts.map (·.pc))))) (fun _ a _ => nu - (intOf a).toNat)
     case atStart => exact ⟨0, m, q, k, rfl, rfl, Nat.zero_le _, HJ⟩
     case round =>
      clear HJ; obtain ⟨f, m, q, k, rfl, rfl, hf, HI⟩ := hrel
      by_cases hlf : f < nu
      ·obtain ⟨x, hxx⟩ : ∃ x, b.us[f]? = some x := ⟨_, List.getElem?_eq_getElem (by rw [Hnu.out]; exact hlf)⟩; have hbk := Hbk0.out.only0 HI.out.2.2; have hrd := hbk.su.1; have hne : b.us.flatMap luCells ≠ [] := fun e' => (by have := flat_get luCells 5 luCells_len b.us _ x 0 hxx (by omega); rw [e'] at this; cases this); obtain ⟨g2, off2, hg, -⟩ := hrd.lt hne; rw [hg] at hrd; obtain rfl : pu = some _ := Hpu.out.symm.trans hg; have d0 := rd_elem luCells_len hrd hxx (r := 0) rfl; have d1 := rd_elem luCells_len hrd hxx (r := 1) rfl; have d2 := rd_elem luCells_len hrd hxx (r := 2) rfl; have d3 := rd_elem luCells_len hrd hxx (r := 3) rfl
       have d4 := rd_elem luCells_len hrd hxx (r := 4) rfl; rw [Addr.add_lit, ← Nat.add_assoc] at d0 d1 d2 d3 d4; rw [Nat.add_zero] at d0; have hxm := List.mem_of_getElem? hxx; obtain ⟨r, hr⟩ : ∃ r, x.u.parts.length = r := ⟨_, rfl⟩; obtain ⟨xq, hxq⟩ : ∃ xq, x.q = xq := ⟨_, rfl⟩; have hr5 : r ≤ 100000 := (by rw [← hr]; exact H4.out x hxm); rw [hr, hxq] at d4; obtain ⟨wv, hwv⟩ : ∃ wv, wv = wr.alloc (.cells #[.int .i64 x.u.id.node, .int .i64 x.u.id.boot, .int .i64 x.u.id.seq, .string (str x.u.key), .slice xq r x.c] 68) := ⟨_, rfl⟩; have ov : Only [] wr wv := (by rw [hwv]; exact Only.alloc _ _); have rv : Row wv wr.heap.size 68 [.int .i64 x.u.id.node, .int .i64 x.u.id.boot, .int .i64 x.u.id.seq, .string (str x.u.key), .slice xq r x.c] := by rw [hwv]; exact Row.newOf _ _ _ _ rfl
       have e4 := rv.cell (i := 4) rfl; have Hup := Lib.hid (Hbk0.out.up x hxm); have HIv : Hid (OutP w0 wv q m k ((((L.bs.take i).flatMap (fun b => bkPcs b.b) ++ pcsO b) ++ (b.us.take f).flatMap (fun x => x.u.parts.map (·.pc))) ++ (x.u.parts.take 0).map (·.pc))) := Lib.hid (by rw [List.take_zero, List.map_nil, List.append_nil]; exact HI.out.only0 ov)
       have Hle2 : Hid (∀ h y, x.u.parts[h]? = some y → ((((L.bs.take i).flatMap (fun b => bkPcs b.b) ++ pcsO b) ++ (b.us.take f).flatMap (fun x => x.u.parts.map (·.pc))) ++ (x.u.parts.take (h + 1)).map (·.pc)).length ≤ 1000000) := Lib.hid (fun h y hy => by
        obtain ⟨zs, hz⟩ := flat_split (g := fun x : LUpl => x.u.parts.map (·.pc)) hxx (j := h) (p := y.pc) (by rw [List.getElem?_map, hy]; rfl)
        have h1 := Hle.out (pcsO b ++ ((b.us.take f).flatMap (fun x => x.u.parts.map (·.pc)) ++ (x.u.parts.map (·.pc)).take (h + 1))) zs (by
         rw [bkPcs_eq]; show pcsO b ++ b.us.flatMap (fun x => x.u.parts.map (·.pc)) = _; rw [hz, take_snoc' (p := y.pc) (by rw [List.getElem?_map, hy]; rfl)]
         simp)
        rw [List.map_take]
        simpa [List.append_assoc] using h1)
       have Hxx := Lib.hid hxx; have Hr := Lib.hid hr; have Hxq := Lib.hid hxq; have Hwv := Lib.hid hwv; rw [hwv] at e4; clear hbk hrd hne hg hxx hxm hr hxq hwv ov rv HI; go_wp2_with fail; rw [← Hwv.out]; clear d0 d1 d2 d3 d4 e4 Hwv
       go_loopw [3, 42] (fun b2 a wl => ∃ (h m : Nat) (q : Option Addr) (k : Nat), b2 = .slice q m k ∧ a = .int .i64 (h : Int) ∧ h ≤ r ∧ Hid (OutP w0 wl q m k ((((L.bs.take i).flatMap (fun b => bkPcs b.b) ++ pcsO b) ++ (b.us.take f).flatMap (fun x => x.u.parts.map (·.pc))) ++ (x.u.parts.take h).map (·.pc)))) (fun _ a _ => r - (intOf a).toNat)
       case atStart => exact ⟨0, m, q, k, rfl, rfl, Nat.zero_le _, HIv⟩
       case round =>
        clear HIv; obtain ⟨h, m, q, k, rfl, rfl, hh, HI⟩ := hrel
        by_cases hlh : h < r
        ·obtain ⟨y, hyy⟩ : ∃ y, x.u.parts[h]? = some y := ⟨_, List.getElem?_eq_getElem (by rw [Hr.out]; exact hlh)⟩; have hup : SlOk wr x.q x.u.parts.length x.c (x.u.parts.flatMap ptCells) := Hup.out.only0 HI.out.2.2; have hrd := hup.1; have hne : x.u.parts.flatMap ptCells ≠ [] := fun e' => (by have := flat_get ptCells 6 ptCells_len x.u.parts _ y 0 hyy (by omega); rw [e'] at this; cases this); obtain ⟨g3, off3, hg, -⟩ := hrd.lt hne; rw [hg] at hrd; obtain rfl : xq = some _ := Hxq.out.symm.trans hg; have d0 := rd_elem ptCells_len hrd hyy (r := 0) rfl; have d1 := rd_elem ptCells_len hrd hyy (r := 1) rfl
         have d2 := rd_elem ptCells_len hrd hyy (r := 2) rfl; have d3 := rd_elem ptCells_len hrd hyy (r := 3) rfl; have d4 := rd_elem ptCells_len hrd hyy (r := 4) rfl; have d5 := rd_elem ptCells_len hrd hyy (r := 5) rfl; rw [Addr.add_lit, ← Nat.add_assoc] at d0 d1 d2 d3 d4 d5; rw [Nat.add_zero] at d0; obtain ⟨wy, hwy⟩ : ∃ wy, wy = wr.alloc (.cells #[.int .i64 y.num, .int .i64 y.pc.blob.node, .int .i64 y.pc.blob.boot, .int .i64 y.pc.blob.seq, .int .i64 y.pc.size, .string (str y.pc.etag)] 70) := ⟨_, rfl⟩; have oy : Only [] wr wy := (by rw [hwy]; exact Only.alloc _ _); have ry : Row wy wr.heap.size 70 [.int .i64 y.num, .int .i64 y.pc.blob.node, .int .i64 y.pc.blob.boot, .int .i64 y.pc.blob.seq, .int .i64 y.pc.size, .string (str y.pc.etag)] := by rw [hwy]; exact Row.newOf _ _ _ _ rfl
         have e1 := ry.cell (i := 1) rfl; have e2 := ry.cell (i := 2) rfl; have e3 := ry.cell (i := 3) rfl; have e4 := ry.cell (i := 4) rfl; have e5 := ry.cell (i := 5) rfl
         have hm1 : m + 1 ≤ 1000000 := by
          have h1 := Hle2.out h y hyy; rw [take_snoc' hyy, List.map_append, ← List.append_assoc, List.length_append, HI.out.2.1] at h1; exact h1
         have oz := Only.alloc wy (.cells (pcCells y.pc).toArray 36); have rz := Row.new wy 36 (pcCells y.pc); obtain ⟨q', k', w2, Hap, hO2, -, -⟩ := ((HI.out.only0 oy).only0 oz).app (news := [y.pc]) (pq := some ⟨wy.heap.size, 0, none⟩) (r := 1) (c := 1) (by simpa using rz.rd0) rfl (fun h => by cases h) hm1; have HO2 : Hid (OutP w0 w2 q' (m + 1) k' ((((L.bs.take i).flatMap (fun b => bkPcs b.b) ++ pcsO b) ++ (b.us.take f).flatMap (fun x => x.u.parts.map (·.pc))) ++ (x.u.parts.take (h + 1)).map (·.pc))) := Lib.hid (by rw [take_snoc' hyy, List.map_append, ← List.append_assoc]; exact hO2); have hsy : wy.heap.size = wr.heap.size + 1 := by rw [hwy]; simp
         rw [hsy, hwy] at Hap; unfold pcCells at Hap; rw [hwy] at e1 e2 e3 e4 e5; clear hup hrd hne hg hyy hwy oy ry hm1 oz rz hO2 hsy HI
         go_wp2_with (first | (at_builtin; refine wpl_append (s := .tmp 46) (x := .tmp 49) rfl rfl rfl rfl Hap.out ?_))
         refine ⟨⟨h + 1, m + 1, q', k', rfl, by go_num, by omega, HO2⟩, ?_⟩; show r - ((h : Int) + 1).toNat < r - ((h : Int)).toNat; omega
        ·obtain rfl : h = r := by omega
         have HE : Hid (OutP w0 wr q m k (((L.bs.take i).flatMap (fun b => bkPcs b.b) ++ pcsO b) ++ (b.us.take (f + 1)).flatMap (fun x => x.u.parts.map (·.pc)))) := Lib.hid (by
          have h1 := HI.out; rw [List.take_of_length_le (l := x.u.parts) (by rw [Hr.out]; exact Nat.le_refl _), List.append_assoc] at h1; rw [flat_succ Hxx.out]
          exact h1)
         clear HI; go_wp2_with fail; refine ⟨⟨f + 1, m, q, k, rfl, by go_num, by omega, HE⟩, ?_⟩; show nu - ((f : Int) + 1).toNat < nu - ((f : Int)).toNat; omega
      ·obtain rfl : f = nu := by omega
       have HE : Hid (OutP w0 wr q m k ((L.bs.take (i + 1)).flatMap (fun b => bkPcs b.b))) := Lib.hid (by
        have h := HI.out; rw [List.take_of_length_le (l := b.us) (by rw [Hnu.out]; exact Nat.le_refl _), List.append_assoc] at h; rw [flat_succ Hbb.out, bkPcs_eq]
        exact h)
       clear HI; go_wp2_with fail; refine ⟨⟨i + 1, m, q, k, rfl, by go_num, by omega, HE⟩, ?_⟩; show n - ((i : Int) + 1).toNat < n - ((i : Int)).toNat; omega
  ·obtain rfl : i = n := (by omega); have HE := HI; rw [List.take_of_length_le (by rw [Hn.out]; exact Nat.le_refl _)] at HE; clear HI; go_wp2_with fail
   go_ret
   exact ⟨_, _, _, rfl, HE.out⟩
end Go.Proofs.Ytfeglnpmpgipiaa
end
section
set_option linter.unusedVariables false
set_option maxRecDepth 100000
namespace Go.Proofs.Ytfeglnpmpgipiaa
open Go.RowKit
def aliveL (g : Nat) : LCat := ⟨[], none, 0, [⟨0, 1, 5⟩], some ⟨g, 0, none⟩, 1⟩
def aliveFs : List Cid := [⟨0, 1, 3⟩, ⟨0, 1, 7⟩, ⟨1, 0, 0⟩]
theorem alive_spare (g : Nat) : spareL (aliveL g).fs (catPcs (aliveL g).cat) aliveFs = [⟨0, 1, 3⟩] := by
 show spareL [⟨0, 1, 5⟩] [] aliveFs = _
 decide +kernel
set_option maxHeartbeats 8000000 in
theorem alive22_any (w0 : World) : Calls Try.prog 5 #[] w0 fun e w' => e = .returned (.bool true) ∧ Only [] w0 w' := by
 obtain ⟨w1, hw1⟩ : ∃ w1, w1 = w0.alloc (.cells #[.int .i64 0, .int .i64 1, .int .i64 5] 31) := ⟨_, rfl⟩; obtain ⟨w2, hw2⟩ : ∃ w2, w2 = w1.alloc (.cells #[.slice none 0 0, .slice (some ⟨w0.heap.size, 0, none⟩) 1 1] 27) := ⟨_, rfl⟩; obtain ⟨w3, hw3⟩ : ∃ w3, w3 = w2.alloc (.cells #[.int .i64 0, .int .i64 1, .int .i64 3, .int .i64 0, .int .i64 1, .int .i64 7, .int .i64 1, .int .i64 0, .int .i64 0] 31) := ⟨_, rfl⟩; have o1 : Only [] w0 w1 := (by rw [hw1]; exact Only.alloc _ _); have o2 : Only [] w1 w2 := (by rw [hw2]; exact Only.alloc _ _); have o3 : Only [] w2 w3 := by rw [hw3]; exact Only.alloc _ _
 have s1 : w1.heap.size = w0.heap.size + 1 := (by rw [hw1]; simp); have s2 : w2.heap.size = w0.heap.size + 1 + 1 := (by rw [hw2, ← s1]; simp); have r1 : Row w1 w0.heap.size 31 ((aliveL w0.heap.size).fs.flatMap idCells) := (by rw [hw1]; exact Row.newOf _ _ _ _ rfl); have r2 : Row w2 (w0.heap.size + 1) 27 [.slice none 0 0, .slice (some ⟨w0.heap.size, 0, none⟩) 1 1] := (by rw [← s1, hw2]; exact Row.newOf _ _ _ _ rfl); have r3 : Row w3 (w0.heap.size + 1 + 1) 31 (aliveFs.flatMap idCells) := (by rw [← s2, hw3]; exact Row.newOf _ _ _ _ rfl); have b0 := r2.cell (i := 0) rfl; have b1 := r2.cell (i := 1) rfl; have hA : CatAt w3 (aliveL w0.heap.size) := ⟨⟨.inl rfl, fun _ => ⟨rfl, rfl⟩, Nat.le_refl _⟩, ⟨((r1.only0 o2).only0 o3).rd0, (fun h => by cases h), Nat.le_refl _⟩, by intro b hb; cases hb⟩
 have hsp := spare_any (aliveL w0.heap.size) (some ⟨w0.heap.size + 1 + 1, 0, none⟩) 3 3 aliveFs w3 hA ⟨by show 0 ≤ 100000; decide, by show 1 ≤ 100000; decide, by intro b hb; cases hb⟩ (by show SortB Cid.node ltZ [⟨0, 1, 5⟩]; simp [SortB]) rfl (by decide) (fun h => by cases h) r3.rd0; rw [alive_spare] at hsp; have HO := Lib.hid ((o1.trans0 o2).trans0 o3); rw [hw1] at hw2; have Hw2 := Lib.hid hw2; rw [hw2] at hw3; have Hw3 := Lib.hid hw3; have Hr2 := Lib.hid r2; rw [hw2] at b0 b1; have hv : lcV (aliveL w0.heap.size) = .agg #[.slice none 0 0, .slice (some ⟨w0.heap.size, 0, none⟩) 1 1] := rfl; rw [hv] at hsp
 clear o1 o2 o3 s1 s2 r1 r2 r3 hA hw1 hw2 hw3 hv
 go_enter Try.func5, Try.ntmps5
 go_wp2_with fail; rw [← Hw3.out]; refine hsp.mono ?_; clear hsp b0 b1; rintro e w4 ⟨q, m, k, rfl, own, hl, o4⟩; obtain rfl : 1 = m := hl; obtain ⟨g, rfl, -, -⟩ := own.at (by omega); have hrd := own.view.2.2.1; have x0 := rd_elem idCells_len (l := [(⟨0, 1, 3⟩ : Cid)]) hrd (j := 0) rfl (r := 0) rfl; have x1 := rd_elem idCells_len (l := [(⟨0, 1, 3⟩ : Cid)]) hrd (j := 0) rfl (r := 1) rfl; have x2 := rd_elem idCells_len (l := [(⟨0, 1, 3⟩ : Cid)]) hrd (j := 0) rfl (r := 2) rfl; simp only [Addr.add_lit, Nat.zero_add, Nat.add_zero, Nat.zero_mul] at x0 x1 x2; have HE := Lib.hid (HO.out.trans0 o4); clear own o4 hrd
 go_wp2_with fail
 go_ret
 exact ⟨rfl, HE.out⟩
end Go.Proofs.Ytfeglnpmpgipiaa
end
