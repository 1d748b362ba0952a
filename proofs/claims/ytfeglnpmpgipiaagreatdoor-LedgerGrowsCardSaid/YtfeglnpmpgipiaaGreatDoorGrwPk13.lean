/- GrwPk, part 13: Nd. -/
import Derived.Test.YtfeglnpmpgipiaaGreatDoorGrwPk05
import Derived.Test.YtfeglnpmpgipiaaGreatDoorGrwPk12
set_option linter.unusedVariables false
set_option maxRecDepth 100000
set_option linter.unusedSimpArgs false
namespace Go.Proofs.YtfeglnpmpgipiaaGreatDoor
section
theorem zDJ {l l' new sub:List Nat} (hp:l'.Perm (new ++ sub)) (hs:sub.Sublist l) (hl:l.Nodup) (hn:new.Nodup) (hd:∀ z∈new,z ∉ l):l'.Nodup :=
 hp.nodup_iff.2 (List.nodup_append.2 ⟨hn,hs.nodup hl,fun a ha b hb e=>hd a ha (hs.subset (e ▸ hb))⟩)
theorem zFq {α:Type} {F:α→List Nat} {xs:List α} (h:(xs.flatMap F).Nodup) {i j:Nat} {x y:α} (hx:xs[i]?=some x) (hy:xs[j]?=some y) (hne:¬ i=j):∀ z∈F x,z ∉ F y:=by
 have key:∀ (xs:List α),(xs.flatMap F).Nodup→∀ (i j:Nat) (x y:α),i < j→xs[i]?=some x→xs[j]?=some y→∀ z∈F x,z ∉ F y:=by
  intro xs
  induction xs with
  | nil=>intro _ i j x y _ hx;simp at hx
  | cons a xs ih =>
   intro h i j x y hlt hx hy z hz hz2;rw [List.flatMap_cons] at h;obtain ⟨-,h2,h3⟩:=List.nodup_append.1 h
   cases j with
   | zero=>omega
   | succ j =>
    have hy':xs[j]?=some y:=by simpa using hy
    cases i with
    | zero =>
     have hx':a=x:=(by simpa using hx);subst hx';exact h3 z hz z (List.mem_flatMap.2 ⟨y,List.mem_of_getElem? hy',hz2⟩) rfl
    | succ i=>exact ih h2 i j x y (by omega) (by simpa using hx) hy' z hz hz2
 rcases Nat.lt_or_gt_of_ne hne with h1 | h1
 ·exact key xs h i j x y h1 hx hy
 ·exact fun z hz hz2=>key xs h j i y x h1 hy hx z hz2 hz
theorem zBU {p p':Option Addr} {N:Nat} (h:∀ z∈blk p',z∈blk p∨N≤z):(blk p'=[]∨blk p'=blk p)∨∃ g,blk p'=[g]∧N≤g:=by
 cases p' with
 | none=>exact .inl (.inl rfl)
 | some a =>
  have h1:=h a.block (by simp [blk])
  rcases h1 with h1 | h1
  ·cases p with
   | none=>simp [blk] at h1
   | some b=>simp [blk] at h1;exact .inl (.inr (by simp [blk,h1]))
  ·exact .inr ⟨a.block,by simp [blk],h1⟩
theorem zAQ {α:Type} {F:α→List Nat} {xs ys:List α} (h:xs.Sublist ys):(xs.flatMap F).Sublist (ys.flatMap F):=by
 induction h with
 | slnil=>exact List.Sublist.refl _
 | cons a _ ih=>rw [List.flatMap_cons];exact ih.trans (List.sublist_append_right ..)
 | cons_cons a _ ih=>rw [List.flatMap_cons,List.flatMap_cons];exact (List.Sublist.refl _).append ih
theorem zBy {α κ:Type} {key:α→κ} {l:κ→κ→Prop} [DecidableRel l] [DecidableEq κ] (F:α→List Nat) (xs:List α) (k:κ) (x:α) :
  ∃ sub,((jN key l xs k x).flatMap F).Perm (F x ++ sub)∧sub.Sublist (xs.flatMap F):=by
 have p1:∀ A C:List α,((A ++ x :: C).flatMap F).Perm (F x ++ (A ++ C).flatMap F):=fun A C=>by
  rw [List.perm_iff_count];intro a;simp only [List.count_append,List.flatMap_append,List.flatMap_cons];omega
 unfold jN
 split
 ·rename_i h
  obtain ⟨y,hy,-⟩:=jQ h;obtain ⟨hi,-⟩:=List.getElem?_eq_some_iff.1 hy;rw [List.set_eq_take_append_cons_drop,if_pos hi];refine ⟨_,p1 _ _,zAQ ?_⟩;rw [← List.eraseIdx_eq_take_drop_succ];exact List.eraseIdx_sublist ..
 ·refine ⟨_,p1 _ _,?_⟩;rw [List.take_append_drop];exact List.Sublist.refl _
theorem put_mem {α κ:Type} {key:α→κ} {l:κ→κ→Prop} [DecidableRel l] [DecidableEq κ] {xs:List α} {k:κ} {x y:α} (h:y∈jN key l xs k x):y=x∨y∈xs:=by
 unfold jN at h
 split at h
 ·exact (List.mem_or_eq_of_mem_set h).symm
 ·rcases List.mem_append.1 h with h | h
  ·exact .inr (List.mem_of_mem_take h)
  ·rcases List.mem_cons.1 h with h | h
   ·exact .inl h
   ·exact .inr (List.mem_of_mem_drop h)
theorem zAl {α β κ:Type} {key:α→κ} {key':β→κ} {l:κ→κ→Prop} [DecidableRel l] (g:α→β) (hg:∀ a,key' (g a)=key a) (xs:List α) (k:κ):qV key' l (xs.map g) k=qV key l xs k:=by
 unfold qV;rw [List.takeWhile_map,List.length_map]
 congr 2
 funext x
 simp [Function.comp,hg]
theorem zAs {α β κ:Type} {key:α→κ} {key':β→κ} {l:κ→κ→Prop} [DecidableRel l] [DecidableEq κ] (g:α→β) (hg:∀ a,key' (g a)=key a) (xs:List α) (k:κ):qC key' l (xs.map g) k=qC key l xs k:=by
 unfold qC;rw [zAl g hg,List.getElem?_map]
 cases xs[qV key l xs k]? with
 | none=>rfl
 | some x=>simp [hg]
theorem zDE {α β κ:Type} {key:α→κ} {key':β→κ} {l:κ→κ→Prop} [DecidableRel l] [DecidableEq κ] (g:α→β) (hg:∀ a,key' (g a)=key a) (xs:List α) (k:κ) (x:α):(jN key l xs k x).map g=jN key' l (xs.map g) k (g x):=by
 unfold jN;rw [zAs g hg,zAl g hg]
 split
 ·rw [List.map_set]
 ·rw [List.map_append,List.map_take,List.map_cons,List.map_drop]
theorem vX {α β:Type} (g:α→β):∀ (xs:List α) (i:Nat),(xs.eraseIdx i).map g=(xs.map g).eraseIdx i
 | [],_=>rfl
 | _ :: _,0=>rfl
 | x :: xs,i+1=>by simp [vX g xs i]
theorem zIC {α β κ:Type} {key:α→κ} {key':β→κ} {l:κ→κ→Prop} [DecidableRel l] [DecidableEq κ] (g:α→β) (hg:∀ a,key' (g a)=key a) (xs:List α) (k:κ):(zDS key l xs k).map g=zDS key' l (xs.map g) k:=by
 unfold zDS;rw [zAs g hg,zAl g hg]
 split
 ·rw [vX]
 ·rfl
theorem zAM {α β κ:Type} {key:α→κ} {key':β→κ} {l:κ→κ→Prop} (g:α→β) (hg:∀ a,key' (g a)=key a) {xs:List α} (h:jD key' l (xs.map g)):jD key l xs:=by
 unfold jD at h ⊢;rw [List.pairwise_map] at h;exact h.imp (fun hh=>by rw [hg,hg] at hh;exact hh)
end
end Go.Proofs.YtfeglnpmpgipiaaGreatDoor
