/- UplPk: Mem, Own, Regions, RdSub, Flat, CatMem, CmdMem, OutK, CatTools, Ref11AppL, HashAtW, CatBack. -/
import Derived.WalkKit
import Derived.Lib.Hide
import Derived.WalkSpells
import Derived.WalkLawsBesides
import Derived.Laws.CopyOwn
import Derived.Deep.Draws
import Derived.Deep.QuietTactic
import Derived.BigQuiet
import Derived.Test.YtfeglnpmpgipiaaGreatDoorCatPk01
import Derived.Lib.AppendStr
import Derived.Lib.SlBytesConst
import Derived.Lib.ConvBytes
import Derived.Test.YtfeglnpmpgipiaaGreatDoorCatPk04
import Derived.Orders
import Derived.Test.YtfeglnpmpgipiaaGreatDoorCatPk07
import Derived.RangeFuncNested
import Derived.RangeFuncBound
import Derived.RangeFuncCalls
import Derived.RangeFuncLeaves
import Derived.TacticsInMore
import Derived.OwnWalkIn
import Derived.LoopNIn
import Derived.LoopIn
import Derived.Shelf.Abstract
import Derived.Test.YtfeglnpmpgipiaaGreatDoorCatPk08
import Derived.Test.YtfeglnpmpgipiaaGreatDoorCatPk09
import Derived.Test.YtfeglnpmpgipiaaGreatDoorProg
import Derived.Test.YtfeglnpmpgipiaaGreatDoorCatPk06
import Derived.Test.YtfeglnpmpgipiaaGreatDoorCatPk10
import Derived.Deep.DeepCutAuto
import Derived.Deep.Cut
import Derived.Test.YtfeglnpmpgipiaaGreatDoorCatPk11
import Derived.Test.YtfeglnpmpgipiaaGreatDoorCatPk12
import Derived.Test.YtfeglnpmpgipiaaGreatDoorCatPk17
import Derived.Test.YtfeglnpmpgipiaaGreatDoorCatPk24
import Derived.Test.YtfeglnpmpgipiaaGreatDoorCatPk21
import Derived.Stop.BytesEq
import Derived.Test.YtfeglnpmpgipiaaGreatDoorCatPk23
set_option linter.unusedVariables false
set_option maxRecDepth 100000
set_option linter.unusedSimpArgs false
section
set_option linter.unusedVariables false
set_option maxRecDepth 100000
namespace Go.Proofs.YtfeglnpmpgipiaaGreatDoor
section
variable {α κ:Type} {key:α→κ} {l:κ→κ→Prop} [DecidableRel l] [DecidableEq κ]
end
section
variable (sm:List Pc→Bs)
def upC (c:Cat) (b:CBuck) (n:Bs) (id:Cid) (k:Bs) (ps:List CPart):Cat:={ c with bucks:=putL CBuck.name lt c.bucks n { b with upls:=putL CUpl.id ltI b.upls id ⟨id,k,ps⟩ } }
theorem upC_start {c:Cat} (h:CatOk c) {x:Cmd} (hx:x.kind=5) (h0:(apply sm c x).2.code=0) :
  ∃ b,atL CBuck.name lt c.bucks x.bucket=some b∧(apply sm c x).1=upC c b x.bucket x.id x.key []:=by
 have e:=apply_in sm c (x:=x) (by omega) (by omega) (by omega) (by omega)
 cases ha:atL CBuck.name lt c.bucks x.bucket with
 | none =>
  rw [ha] at e;rw [e] at h0;exact absurd (show (1:Int)=0 from h0) (by decide)
 | some b =>
  rw [ha] at e;dsimp only at e;obtain ⟨hm,hbn⟩:=(atL_iff linB h.bs).1 ha;refine ⟨b,rfl,?_⟩
  have hi:inBuck sm b x=(if 16≤b.upls.length then (b,⟨7,[]⟩) else ({ b with upls:=putL CUpl.id ltI b.upls x.id ⟨x.id,x.key,[]⟩ },⟨0,[]⟩)):=by
   unfold inBuck;rw [if_neg (by omega),if_neg (by omega),if_pos hx]
  rw [e] at h0;dsimp only at h0;rw [hi] at h0 e
  by_cases hl:16≤b.upls.length
  ·rw [if_pos hl] at h0;exact absurd (show (7:Int)=0 from h0) (by decide)
  ·rw [if_neg hl] at e;rw [e]
   rfl
theorem upC_at {c:Cat} (h:CatOk c) {b:CBuck} {n:Bs} (hb:atL CBuck.name lt c.bucks n=some b) (id:Cid) (k:Bs) (ps:List CPart) :
  atL CBuck.name lt (upC c b n id k ps).bucks n=some { b with upls:=putL CUpl.id ltI b.upls id ⟨id,k,ps⟩ }:=by
 obtain ⟨hm,hbn⟩:=(atL_iff linB h.bs).1 hb;exact atL_putSelf linB h.bs (x:={ b with upls:=putL CUpl.id ltI b.upls id ⟨id,k,ps⟩ }) hbn
theorem upC_part {c:Cat} (h:CatOk c) {b:CBuck} {p:Cmd} (hp:p.kind=6) (hb:atL CBuck.name lt c.bucks p.bucket=some b) (ps:List CPart) :
  apply sm (upC c b p.bucket p.upload p.key ps) p=(upC c b p.bucket p.upload p.key (putL CPart.num ltZ ps p.part ⟨p.part,p.piece⟩),⟨0,p.piece.etag⟩):=by
 obtain ⟨hm,hbn⟩:=(atL_iff linB h.bs).1 hb;have hbk:=h.bk b hm;rw [apply_in sm _ (x:=p) (by omega) (by omega) (by omega) (by omega),upC_at h hb];dsimp only;have hat:=atL_some (atL_putSelf linI hbk.us (k:=p.upload) (x:=⟨p.upload,p.key,ps⟩) rfl)
 have hi:inBuck sm { b with upls:=putL CUpl.id ltI b.upls p.upload ⟨p.upload,p.key,ps⟩ } p=({ b with upls:=putL CUpl.id ltI b.upls p.upload ⟨p.upload,p.key,putL CPart.num ltZ ps p.part ⟨p.part,p.piece⟩⟩ },⟨0,p.piece.etag⟩):=by
  unfold inBuck;rw [if_neg (by omega),if_neg (by omega),if_neg (by omega),if_neg (by omega)];dsimp only;rw [hat.1];dsimp only;rw [if_pos ⟨rfl,rfl⟩];unfold inUpl;rw [if_pos hp];dsimp only;have:=put_put linI hbk.us (k:=p.upload) (x:=⟨p.upload,p.key,ps⟩) (y:=⟨p.upload,p.key,putL CPart.num ltZ ps p.part ⟨p.part,p.piece⟩⟩) rfl rfl;rw [← this];have hset:∀ v:CUpl,(putL CUpl.id ltI b.upls p.upload ⟨p.upload,p.key,ps⟩).set (posL CUpl.id ltI (putL CUpl.id ltI b.upls p.upload ⟨p.upload,p.key,ps⟩) p.upload) v=putL CUpl.id ltI (putL CUpl.id ltI b.upls p.upload ⟨p.upload,p.key,ps⟩) p.upload v:=fun v=>(if_pos hat.2.2).symm
  rw [hset]
 rw [hi];dsimp only;unfold upC;dsimp only;rw [put_put linB h.bs (by exact hbn) (by exact hbn)]
theorem upC_abort {c:Cat} (h:CatOk c) {b:CBuck} {p:Cmd} (hp:p.kind=8) (hb:atL CBuck.name lt c.bucks p.bucket=some b) (hn:∀ u∈b.upls,u.id≠p.upload) (ps:List CPart) :
  apply sm (upC c b p.bucket p.upload p.key ps) p=(c,⟨0,[]⟩):=by
 obtain ⟨hm,hbn⟩:=(atL_iff linB h.bs).1 hb;have hbk:=h.bk b hm;rw [apply_in sm _ (x:=p) (by omega) (by omega) (by omega) (by omega),upC_at h hb];dsimp only;have hat:=atL_some (atL_putSelf linI hbk.us (k:=p.upload) (x:=⟨p.upload,p.key,ps⟩) rfl)
 have hi:inBuck sm { b with upls:=putL CUpl.id ltI b.upls p.upload ⟨p.upload,p.key,ps⟩ } p=(b,⟨0,[]⟩):=by
  unfold inBuck;rw [if_neg (by omega),if_neg (by omega),if_neg (by omega),if_neg (by omega)];dsimp only;rw [hat.1];dsimp only;rw [if_pos ⟨rfl,rfl⟩];unfold inUpl;rw [if_neg (by omega),if_pos hp];dsimp only;have hd:=del_put linI hbk.us (k:=p.upload) (x:=⟨p.upload,p.key,ps⟩) rfl hn;unfold delL at hd;rw [if_pos hat.2.2] at hd;rw [hd]
 rw [hi];dsimp only;unfold upC;dsimp only;rw [put_put linB h.bs (by exact hbn) hbn,put_same hb]
theorem upC_findO {c:Cat} (h:CatOk c) {b:CBuck} {n:Bs} (hb:atL CBuck.name lt c.bucks n=some b) (id:Cid) (k:Bs) (ps:List CPart) (kk:Bs):findO (upC c b n id k ps) n kk=findO c n kk:=by
 unfold findO findB;rw [upC_at h hb,hb]
 rfl
end
end Go.Proofs.YtfeglnpmpgipiaaGreatDoor
end
