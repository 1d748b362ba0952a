/- Calls on a net and the document's net, side by side. -/
import Derived.Test.YtlgcclhepegggaaDoorNetPlayL
import Derived.Test.YtlgcclhepegggaaDoorErrNumW
set_option linter.unusedVariables false
set_option maxRecDepth 100000
namespace Go.Proofs.YtlgcclhepegggaaDoor
open Go.RowKit

/-- the number of an error -/
def NumIs (az : List Addr) (v : Value) (num : Int) : Prop := (v = .nilIface ∧ num = 0) ∨ (∃ (i : Nat) (a : Addr), v = ev a ∧ az[i]? = some a ∧ num = (i : Int) + 1)
theorem num_is {az : List Addr} {v : Value} {num : Int} (h : NumIs az v num) (w : World) (hE : ErrAll w az) : Calls Tryd.prog 28 #[v] w fun e w' => e = .returned (.int .i64 num) ∧ Only [] w w' := by
  rcases h with ⟨rfl, rfl⟩ | ⟨i, a, rfl, ha, rfl⟩
  · refine (num_nil w).mono ?_
    rintro e w' ⟨rfl, rfl⟩
    exact ⟨rfl, Only.refl _ _⟩
  · exact num_err w az i a hE ha
/-- what the document's net answers, in every world behind w1 -/
def RefCall (f : FuncId) (args : Array Value) (w1 : World) (base Br : Nat) (qr : Option Addr) (n' last' : Nat) (L' : List Lt) (rv : Value) : Prop :=
  ∀ w2, Only [] w1 w2 → Calls Tryd.prog f args w2 fun e w3 => ∃ qr' cr', e = .returned rv ∧ RefAt w3 base Br qr' n' cr' last' L' ∧ (∀ x ∈ blk qr', x ∈ blk qr ∨ w2.heap.size ≤ x) ∧ Only (Br :: blk qr) w2 w3
def PutBoth (az : List Addr) (w0 : World) (base B : Nat) (q : Option Addr) (last : Nat) (L : List Lt) (Br : Nat) (qr : Option Addr) (f : FuncId) (args : Array Value) (e : Ending) (w1 : World) : Prop :=
  ∃ (kv : Int) (v : Value) (num : Int) (q' : Option Addr) (n' c' last' : Nat) (L' : List Lt), e = .returned (.tuple #[.int .i64 kv, v]) ∧ NumIs az v num ∧ NetAt w1 base B q' n' c' last' L' ∧ Rises last' L' ∧ (∀ x ∈ netD B q' L', x ∈ netD B q L ∨ w0.heap.size ≤ x) ∧ Only (netD B q L) w0 w1 ∧ n' ≤ 4096 ∧ last' ≤ last + 1 ∧ RefCall f args w1 base Br qr n' last' L' (.tuple #[.int .i64 kv, .int .i64 num])
theorem find_same {w0 : World} {base B n c last Br cr : Nat} {q qr : Option Addr} {L : List Lt} (h : PA w0 base B q n c last L Br qr cr) {i j : Nat} {o o2 : Lt} {x : Int} (hi : L[i]? = some o) (hj : L[j]? = some o2) (h1 : (o.n : Int) = x) (h2 : (o2.n : Int) = x) : i = j ∧ o = o2 := by
  obtain rfl : i = j := by
    rcases Nat.lt_trichotomy i j with h3 | h3 | h3
    · have := h.rises.lt hi hj h3; omega
    · exact h3
    · have := h.rises.lt hj hi h3; omega
  exact ⟨rfl, Option.some.inj (hi.symm.trans hj)⟩
theorem bbs_gone : ∀ {L : List Lt} {i : Nat} {o : Lt}, (bbs L).Nodup → L[i]? = some o → ∀ y ∈ o.bb, y ∉ bbs (L.eraseIdx i)
  | [], i, o, _, h => by simp at h
  | a :: L, 0, o, hnd, h => by
    obtain rfl : a = o := by simpa using h
    intro y hy hm
    unfold bbs at hnd
    rw [List.flatMap_cons] at hnd
    exact (List.nodup_append.1 hnd).2.2 y hy y hm rfl
  | a :: L, i + 1, o, hnd, h => by
    intro y hy hm
    unfold bbs at hnd
    rw [List.flatMap_cons] at hnd
    have hd := List.nodup_append.1 hnd
    have h' : L[i]? = some o := by simpa using h
    rw [List.eraseIdx_cons_succ] at hm
    unfold bbs at hm
    rw [List.flatMap_cons] at hm
    rcases List.mem_append.1 hm with hm | hm
    · exact hd.2.2 y hm y (bbs_mem (List.mem_of_getElem? h') hy) rfl
    · exact bbs_gone hd.2.1 h' y hy hm
section
variable (az : List Addr) {w0 : World} {base B n c last Br cr : Nat} {q qr : Option Addr} {L : List Lt} {aN aG aF : Addr} (hN : az[1]? = some aN) (hG : az[7]? = some aG) (hF : az[9]? = some aF)
include hF
theorem put_both (h : PA w0 base B q n c last L Br qr cr) (fr tg : Int) (xs : List UInt8) (f : FuncId) (args : Array Value) {e : Ending} {w1 : World} (hp : PutEnd w0 base B q n c last L fr tg xs aF e w1) (hr : ∀ w2, RefAt w2 base Br qr n cr last L → Only (netD B q L) w0 w2 → Calls Tryd.prog f args w2 (RPutEnd w2 base Br qr n cr last L fr tg xs)) : PutBoth az w0 base B q last L Br qr f args e w1 := by
  rcases hp with ⟨h1, rfl, o1⟩ | ⟨h1, q', c', o, rfl, hn, ⟨on, ofr, oto, oxs⟩, hbb, hq, o1⟩
  · refine ⟨0, ev aF, 10, q, n, c, last, L, rfl, .inr ⟨9, aF, rfl, hF, rfl⟩, h.net.only0 o1, h.rises, fun x hx => .inl hx, o1.mono (by simp), h.n4, Nat.le_succ _, fun w2 o2 => ?_⟩
    refine (hr w2 (h.ref.only0 (o1.trans0 o2)) ((o1.trans0 o2).mono (by simp))).mono ?_
    rintro e w3 (⟨-, rfl, o3⟩ | ⟨h2, -⟩)
    · exact ⟨qr, cr, rfl, h.ref.only0 ((o1.trans0 o2).trans0 o3), fun x hx => .inl hx, o3.mono (by simp)⟩
    · omega
  · have o1' : Only (netD B q L) w0 w1 := o1.mono (fun x hx => netD_head hx)
    refine ⟨((last + 1 : Nat) : Int), .nilIface, 0, q', n + 1, c', last + 1, L ++ [o], rfl, .inl ⟨rfl, rfl⟩, hn, h.rises.snoc on, netD_put hbb hq, o1', by omega, Nat.le_refl _, fun w2 o2 => ?_⟩
    refine (hr w2 ((h.ref1 o1').only0 o2) (o1'.trans0 o2)).mono ?_
    rintro e w3 (⟨h2, -⟩ | ⟨-, qr', cr', rfl, hrf, hqr, o3⟩)
    · omega
    · exact ⟨qr', cr', rfl, hrf o on ofr oto oxs, hqr, o3⟩
include hN
theorem send_both (h : PA w0 base B q n c last L Br qr cr) (hE : ErrAll w0 az) (fr tg : Int) (gp bp : Option Addr) (l gc bc : Nat) (xs : List UInt8) (hl : xs.length = l) (hlb : l ≤ 140737488351232) (hgn : gp = none → l = 0 ∧ gc = 0) (hbn : bp = none → l = 0 ∧ bc = 0) (hgr : Rd w0 gp (u8s xs)) (hbr : Rd w0 bp (u8s xs)) (hne : xs ≠ [] → ∀ a, gp = some a → a.block ≠ B) (hnb : xs ≠ [] → ∀ a, bp = some a → a.block ∉ netD B q L) (hlast : last ≤ 1000000000000000000) :
    Calls Tryd.prog 14 #[.pointer (some ⟨B, 0, none⟩), .int .i64 fr, .int .i64 tg, .slice gp l gc] w0 (PutBoth az w0 base B q last L Br qr 44 #[.pointer (some ⟨Br, 0, none⟩), .int .i64 fr, .int .i64 tg, .slice bp l bc]) := by
  have eN : ErrAt w0 3 aN := hE.2.2 1 _ aN rfl hN
  have eF : ErrAt w0 10 aF := hE.2.2 9 _ aF rfl hF
  by_cases hg : GoodNo fr tg
  · refine (send_ok w0 base B q n c last L h.net fr tg hg gp l gc xs hl hlb hgn hgr hne hlast aF eF).mono ?_
    intro e w1 hp
    exact put_both az hF h fr tg xs _ _ hp (fun w2 hr ho => rsend_ok w2 base Br qr n cr last L hr fr tg hg bp l bc xs hl hbn (hbr.onlyNe' ho (fun hx a ha => hnb hx a ha)) hlast)
  · refine (send_bad w0 B fr tg hg gp l gc aN eN).mono ?_
    rintro e w1 ⟨rfl, o1⟩
    refine ⟨0, ev aN, 2, q, n, c, last, L, rfl, .inr ⟨1, aN, rfl, hN, rfl⟩, h.net.only0 o1, h.rises, fun x hx => .inl hx, o1.mono (by simp), h.n4, Nat.le_succ _, fun w2 o2 => ?_⟩
    refine (rsend_bad w2 Br fr tg hg bp l bc).mono ?_
    rintro e w3 ⟨rfl, o3⟩
    exact ⟨qr, cr, rfl, h.ref.only0 ((o1.trans0 o2).trans0 o3), fun x hx => .inl hx, o3.mono (by simp)⟩
omit hN
include hG
theorem copy_both (h : PA w0 base B q n c last L Br qr cr) (hE : ErrAll w0 az) (x : Int) (hlast : last ≤ 1000000000000000000) :
    Calls Tryd.prog 15 #[.pointer (some ⟨B, 0, none⟩), .int .i64 x] w0 (PutBoth az w0 base B q last L Br qr 46 #[.pointer (some ⟨Br, 0, none⟩), .int .i64 x]) := by
  have eG : ErrAt w0 2 aG := hE.2.2 7 _ aG rfl hG
  have eF : ErrAt w0 10 aF := hE.2.2 9 _ aF rfl hF
  have hn4 := h.n4
  refine (copy_any w0 base B q n c last L h.net h.rises (by omega) x hlast aG aF eG eF).mono ?_
  rintro e w1 (⟨rfl, hno, o1⟩ | ⟨i, o, hio, hin, hp⟩)
  · refine ⟨0, ev aG, 8, q, n, c, last, L, rfl, .inr ⟨7, aG, rfl, hG, rfl⟩, h.net.only0 o1, h.rises, fun x hx => .inl hx, o1.mono (by simp), h.n4, Nat.le_succ _, fun w2 o2 => ?_⟩
    refine (rcopy_any w2 base Br qr n cr last L (h.ref.only0 (o1.trans0 o2)) (by omega) x hlast).mono ?_
    rintro e w3 (⟨rfl, -, o3⟩ | ⟨j, o2', hj, hjn, -⟩)
    · exact ⟨qr, cr, rfl, h.ref.only0 ((o1.trans0 o2).trans0 o3), fun x hx => .inl hx, o3.mono (by simp)⟩
    · exact absurd hjn (hno o2' (List.mem_of_getElem? hj))
  · refine put_both az hF h o.fr o.to o.xs _ _ hp (fun w2 hr ho => ?_)
    refine (rcopy_any w2 base Br qr n cr last L hr (by omega) x hlast).mono ?_
    rintro e w3 (⟨-, hno, -⟩ | ⟨j, o2', hj, hjn, hrp⟩)
    · exact absurd hin (hno o (List.mem_of_getElem? hio))
    · obtain rfl : i = j := by
        rcases Nat.lt_trichotomy i j with h1 | h1 | h1
        · have := h.rises.lt hio hj h1; omega
        · exact h1
        · have := h.rises.lt hj hio h1; omega
      obtain rfl : o = o2' := Option.some.inj (hio.symm.trans hj)
      exact hrp
omit hF
/-- the letter that Deliver hands back if there is none -/
def Lt0 : Lt := ⟨0, 0, 0, none, 0, []⟩
def DelBoth (az : List Addr) (w0 : World) (base B : Nat) (q : Option Addr) (c last : Nat) (L : List Lt) (Br : Nat) (qr : Option Addr) (x : Int) (e : Ending) (w1 : World) : Prop :=
  ∃ (o : Lt) (v : Value) (num : Int) (n' : Nat) (L' : List Lt), e = .returned (.tuple #[ltV o, v]) ∧ NumIs az v num ∧ o.Ok w1 ∧ (∀ y ∈ o.bb, y ∈ netD B q L ∧ y ∉ netD B q L') ∧ NetAt w1 base B q n' c last L' ∧ L'.Sublist L ∧ Only (B :: blk q) w0 w1 ∧ n' ≤ 4096 ∧ RefCall 45 #[.pointer (some ⟨Br, 0, none⟩), .int .i64 x] w1 base Br qr n' last L' (.tuple #[rV o, .int .i64 num])
theorem deliver_both (h : PA w0 base B q n c last L Br qr cr) (hE : ErrAll w0 az) (x : Int) :
    Calls Tryd.prog 17 #[.pointer (some ⟨B, 0, none⟩), .int .i64 x] w0 (DelBoth az w0 base B q c last L Br qr x) := by
  have eG : ErrAt w0 2 aG := hE.2.2 7 _ aG rfl hG
  have hn4 := h.n4
  refine (deliver_any w0 base B q n c last L h.net h.rises (by omega) x aG eG).mono ?_
  rintro e w1 (⟨rfl, hno, o1⟩ | ⟨i, o, rfl, hio, hin, hn, o1⟩)
  · refine ⟨Lt0, ev aG, 8, n, L, rfl, .inr ⟨7, aG, rfl, hG, rfl⟩, ⟨Rd.nil _ _, fun _ => ⟨rfl, rfl⟩, ⟨Nat.le_refl _, fun h => absurd rfl h⟩, by simp [Lt0]⟩, by simp [Lt0, Lt.bb], h.net.only0 o1, List.Sublist.refl _, o1.mono (by simp), h.n4, fun w2 o2 => ?_⟩
    refine (rdeliver_any w2 base Br qr n cr last L (h.ref.only0 (o1.trans0 o2)) (by omega) x).mono ?_
    rintro e w3 (⟨rfl, -, o3⟩ | ⟨j, o2', -, hj, hjn, -⟩)
    · exact ⟨qr, cr, rfl, h.ref.only0 ((o1.trans0 o2).trans0 o3), fun x hx => .inl hx, o3.mono (by simp)⟩
    · exact absurd hjn (hno o2' (List.mem_of_getElem? hj))
  · have hm := List.mem_of_getElem? hio
    have hnd := List.nodup_cons.1 h.net.nd
    have hnd2 := List.nodup_append.1 hnd.2
    have hok : o.Ok w1 := (h.net.ok o hm).only o1 (fun y hy hmm => by
      have h3 := bbs_mem hm hy
      rcases List.mem_cons.1 hmm with e | e
      · exact hnd.1 (by rw [← e]; exact List.mem_append_right _ h3)
      · exact hnd2.2.2 y e y h3 rfl)
    refine ⟨o, .nilIface, 0, n - 1, L.eraseIdx i, rfl, .inl ⟨rfl, rfl⟩, hok, fun y hy => ⟨?_, fun hmm => ?_⟩, hn, List.eraseIdx_sublist _ _, o1, by omega, fun w2 o2 => ?_⟩
    · unfold netD; exact List.mem_cons_of_mem _ (List.mem_append_right _ (bbs_mem hm hy))
    · have h3 := bbs_mem hm hy
      unfold netD at hmm
      rcases List.mem_cons.1 hmm with e | hmm
      · exact hnd.1 (by rw [← e]; exact List.mem_append_right _ h3)
      · rcases List.mem_append.1 hmm with hmm | hmm
        · exact hnd2.2.2 y hmm y h3 rfl
        · exact bbs_gone hnd2.2.1 hio y hy hmm
    · have o1' : Only (netD B q L) w0 w1 := o1.mono (fun x hx => netD_head hx)
      refine (rdeliver_any w2 base Br qr n cr last L ((h.ref1 o1').only0 o2) (by omega) x).mono ?_
      rintro e w3 (⟨-, hno, -⟩ | ⟨j, o2', rfl, hj, hjn, qr', cr', hrf, hqr, o3⟩)
      · exact absurd hin (hno o hm)
      · obtain ⟨rfl, rfl⟩ := find_same h hio hj hin hjn
        exact ⟨qr', cr', rfl, hrf, fun x hx => .inr (hqr x hx), o3.mono (by simp)⟩
def DropBoth (az : List Addr) (w0 : World) (base B : Nat) (q : Option Addr) (c last : Nat) (L : List Lt) (Br : Nat) (qr : Option Addr) (x : Int) (e : Ending) (w1 : World) : Prop :=
  ∃ (o : Lt) (num : Int) (n' : Nat) (L' : List Lt) (qr' : Option Addr) (cr' : Nat), e = .returned (.tuple #[rV o, .int .i64 num]) ∧ RefAt w1 base Br qr' n' cr' last L' ∧ L'.Sublist L ∧ n' ≤ 4096 ∧ (∀ y ∈ blk qr', y ∈ blk qr ∨ w0.heap.size ≤ y) ∧ Only (Br :: blk qr) w0 w1 ∧
    (∀ w2, Only [] w1 w2 → Calls Tryd.prog 16 #[.pointer (some ⟨B, 0, none⟩), .int .i64 x] w2 fun e w3 => ∃ v, e = .returned v ∧ NumIs az v num ∧ NetAt w3 base B q n' c last L' ∧ Only (B :: blk q) w2 w3)
theorem drop_both (h : PA w0 base B q n c last L Br qr cr) (hE : ErrAll w0 az) (hEd : ∀ w1, Only (Br :: blk qr) w0 w1 → ErrAll w1 az) (x : Int) :
    Calls Tryd.prog 45 #[.pointer (some ⟨Br, 0, none⟩), .int .i64 x] w0 (DropBoth az w0 base B q c last L Br qr x) := by
  have hn4 := h.n4
  refine (rdeliver_any w0 base Br qr n cr last L h.ref (by omega) x).mono ?_
  rintro e w1 (⟨rfl, hno, o1⟩ | ⟨i, o, rfl, hio, hin, qr', cr', hrf, hqr, o1⟩)
  · refine ⟨Lt0, 8, n, L, qr, cr, rfl, h.ref.only0 o1, List.Sublist.refl _, h.n4, fun y hy => .inl hy, o1.mono (by simp), fun w2 o2 => ?_⟩
    have eG : ErrAt w2 2 aG := ((hE.only0 o1).only0 o2).2.2 7 _ aG rfl hG
    refine (drop_any w2 base B q n c last L ((h.net.only0 o1).only0 o2) h.rises (by omega) x aG eG).mono ?_
    rintro e w3 (⟨rfl, -, o3⟩ | ⟨j, o2', -, hj, hjn, -⟩)
    · exact ⟨ev aG, rfl, .inr ⟨7, aG, rfl, hG, rfl⟩, ((h.net.only0 o1).only0 o2).only0 o3, o3.mono (by simp)⟩
    · exact absurd hjn (hno o2' (List.mem_of_getElem? hj))
  · have o1' : Only (Br :: blk qr) w0 w1 := o1.mono (by simp)
    refine ⟨o, 0, n - 1, L.eraseIdx i, qr', cr', rfl, hrf, List.eraseIdx_sublist _ _, by omega, fun y hy => .inr (hqr y hy), o1', fun w2 o2 => ?_⟩
    have eG : ErrAt w2 2 aG := ((hEd w1 o1').only0 o2).2.2 7 _ aG rfl hG
    refine (drop_any w2 base B q n c last L ((h.net1 o1').only0 o2) h.rises (by omega) x aG eG).mono ?_
    rintro e w3 (⟨-, hno, -⟩ | ⟨j, o2', rfl, hj, hjn, hn, o3⟩)
    · exact absurd hin (hno o (List.mem_of_getElem? hio))
    · obtain ⟨rfl, rfl⟩ := find_same h hio hj hin hjn
      exact ⟨.nilIface, rfl, .inl ⟨rfl, rfl⟩, hn, o3⟩
end
end Go.Proofs.YtlgcclhepegggaaDoor
