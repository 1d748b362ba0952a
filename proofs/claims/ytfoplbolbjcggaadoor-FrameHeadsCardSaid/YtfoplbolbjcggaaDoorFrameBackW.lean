/- Get and Head of a frame that Put has made. -/
import Derived.Test.YtfoplbolbjcggaaDoorGetBody
import Derived.Test.YtfoplbolbjcggaaDoorGetW
import Derived.Test.YtfoplbolbjcggaaDoorErrNumW
set_option linter.unusedVariables false
set_option maxRecDepth 100000
namespace Go.Proofs.YtfoplbolbjcggaaDoor
open Go.RowKit Go.Shelf

theorem frameB_length (s : Stp) (xs : List UInt8) : (frameB s xs).length = (topB s xs.length).length + (xs.length + 32 * nbB xs.length) := by
  unfold frameB; rw [List.length_append, body_length]
theorem frameB_small {s : Stp} (hs : stOk s) {xs : List UInt8} (hl : xs.length ≤ 1024) : (frameB s xs).length ≤ 2200 := by
  rw [frameB_length]
  have := topB_length hs (n := xs.length) (by omega)
  unfold nbB
  omega
theorem split_head (s : Stp) (hs : stOk s) (N : Nat) (hN : N ≤ 1024) (rest fs : List UInt8) (p : Option Addr) (n c : Nat) (w : World) (hfs : topB s N ++ rest = fs) (hn : fs.length = n) (hnc : n ≤ c) (hb : n ≤ 140737488351232) (hp : p = none → n = 0 ∧ c = 0) (hx : Rd w p (u8s fs)) (aB : Addr) (hE : ErrAt w 3 aB) :
    SplitOk p n c s N rest w := by
  subst hfs
  intro w1 h1
  have hr : rest.length ≤ n := by rw [List.length_append] at hn; omega
  refine (split_good s hs N hN rest p n c w1 hn hnc hb hp (hx.only0 h1) aB (hE.only0 h1)).mono ?_
  rintro e w2 ⟨r, rfl, h3, h4, h5⟩
  exact ⟨r, _, rfl, h3, by omega, fun w' h' => h4 w' (hx.only0 h'), h5⟩
theorem head_good (s : Stp) (N : Nat) (rest : List UInt8) (p : Option Addr) (n c : Nat) (w : World) (h : SplitOk p n c s N rest w) :
    Calls Tryd.prog 35 #[.slice p n c] w fun e w' => e = .returned (.tuple #[stV s, .int .i64 (N : Int), .nilIface]) ∧ Only [] w w' :=
  head_of p n c N s .nilIface w (fun w1 h1 => (h w1 h1).mono (fun e w' hh => by
    obtain ⟨r, k, h2, h3, h4, h5, h6⟩ := hh
    exact ⟨r, _, k, h2, h6⟩))
/-- Get of Put's frame -/
theorem get_frame (s : Stp) (hs : stOk s) (xs fb : List UInt8) (n : Nat) (hn : xs.length = n) (hl : n ≤ 1024) (hfb : frameB s xs = fb) (p : Option Addr) (m c : Nat) (w : World) (hm : fb.length = m) (hmc : m ≤ c) (hp : p = none → m = 0 ∧ c = 0) (hx : Rd w p (u8s fb)) (aB aD : Addr) (hE : ErrAt w 3 aB) (hD : ErrAt w 0 aD) :
    Calls Tryd.prog 32 #[.slice p m c] w fun e w' => ∃ q k, e = .returned (.tuple #[stV s, .slice q n k, .nilIface]) ∧ Own w' w.heap.size 5 (.slice q n k) (u8s xs) ∧ Only [] w w' := by
  subst hn
  have hbl := body_length xs
  have hsm := frameB_small hs hl
  have hsp := split_head s hs xs.length hl (bodyB xs) fb p m c w hfb hm hmc (by rw [← hm, ← hfb]; omega) hp hx aB hE
  refine (get_good s xs.length hl (bodyB xs) p m c w aB aD hE hD (by rw [hbl]; unfold nbB; omega) hsp).mono ?_
  rintro e w' ⟨ho, h | h | h⟩
  · exact absurd hbl h.1
  · obtain ⟨_, ⟨i, h1, h2⟩, _⟩ := h
    exact absurd (body_ok xs i h1) h2
  · obtain ⟨_, _, q, k, rfl, own⟩ := h
    rw [body_all] at own
    exact ⟨q, k, rfl, own, ho⟩
theorem head_frame (s : Stp) (hs : stOk s) (xs fb : List UInt8) (n : Nat) (hn : xs.length = n) (hl : n ≤ 1024) (hfb : frameB s xs = fb) (p : Option Addr) (m c : Nat) (w : World) (hm : fb.length = m) (hmc : m ≤ c) (hp : p = none → m = 0 ∧ c = 0) (hx : Rd w p (u8s fb)) (aB : Addr) (hE : ErrAt w 3 aB) :
    Calls Tryd.prog 35 #[.slice p m c] w fun e w' => e = .returned (.tuple #[stV s, .int .i64 (n : Int), .nilIface]) ∧ Only [] w w' := by
  subst hn
  have hsm := frameB_small hs hl
  exact head_good s xs.length (bodyB xs) p m c w (split_head s hs xs.length hl (bodyB xs) fb p m c w hfb hm hmc (by rw [← hm, ← hfb]; omega) hp hx aB hE)
end Go.Proofs.YtfoplbolbjcggaaDoor
