/- GrwPk, part 30: BuilderW. -/
import Derived.Test.YtfeglnpmpgipiaaGreatDoorGrwPk06
import Derived.Shelf.Strings.Builder1
import Derived.Test.YtfeglnpmpgipiaaGreatDoorProg
set_option linter.unusedVariables false
set_option maxRecDepth 100000
set_option linter.unusedSimpArgs false
namespace Go.Proofs.YtfeglnpmpgipiaaGreatDoor
section
open Go.RowKit
theorem sizeBuilder:(Tryz.prog.info? 169).map (·.size)=some 2:=by kernel_rfl
theorem liesBuilder:liesAt Tryz.prog Tryz.prog.depth 169 (2 / Tryz.prog.cellsOf 169) 0 169 1=true:=by kernel_rfl
theorem infoByte:(Tryz.prog.info? 5).map (fun i=>(i.zero,i.size,i.bytes))=some (some (.int .u8 0),1,1):=by kernel_rfl
theorem zCy (b:Nat) (w:World) (h0:w.cell? ⟨b,0,none⟩=some (.pointer (some ⟨b,0,none⟩))) :
  Calls Tryz.prog 143 #[.pointer (some ⟨b,0,none⟩)] w fun e w'=>e=.returned (.tuple #[])∧w'=w:=by
 obtain ⟨j,hj,_⟩:=Option.map_eq_some_iff.1 sizeBuilder
 go_enter Tryz.func143,Tryz.ntmps143
 go_wp2_with fail;rw [Lib.run_neq_ptr_same w _ Tryz.underlying167 hj];go_wp2_with fail
 (first | go_end0 | ((try simp only [Exit.inBlock,Exit.then]);refine bodyPost_ret (results_none rfl _ _ _) rfl ?_))
 exact ⟨rfl,rfl⟩
theorem zCe (b:Nat) (w:World) (h0:w.cell? ⟨b,0,none⟩=some (.pointer none)) (hsh:w.shape? b=some (169,2)) (hfz:w.frozen? ⟨b,0,none⟩=false) :
  Calls Tryz.prog 143 #[.pointer (some ⟨b,0,none⟩)] w fun e w'=>e=.returned (.tuple #[])∧w'=w.setCell ⟨b,0,none⟩ (.pointer (some ⟨b,0,none⟩)):=by
 obtain ⟨j,hj,hjs⟩:=Option.map_eq_some_iff.1 sizeBuilder
 go_enter Tryz.func143,Tryz.ntmps143
 go_wp2_with fail;rw [Lib.run_to_unsafe w ⟨b,0,none⟩ Tryz.underlying167 Tryz.underlying200 hj (by rw [hjs];decide) hsh (Nat.zero_lt_succ 1)];simp only [Result.andThen];rw [Oper.upon_value];go_wp2_with fail;rw [run_callFunc_extern Tryz.func154 (by kernel_rfl) (by kernel_rfl) (by kernel_rfl) (e:=Extern.AbiNoEscape.same) (by kernel_rfl)];rw [Lib.run_noEscape];simp only [Result.andThen];rw [Oper.upon_value];go_wp2_with fail;rw [Lib.run_from_unsafe w ⟨b,0,none⟩ Tryz.underlying200 Tryz.underlying167 hj hsh liesBuilder];simp only [Result.andThen];rw [Oper.upon_value];go_wp2_with fail
 (first | go_end0 | ((try simp only [Exit.inBlock,Exit.then]);refine bodyPost_ret (results_none rfl _ _ _) rfl ?_))
 exact ⟨rfl,rfl⟩
theorem zDZ (B b:Nat) (bs:List Value) (w:World) (h:Lib.IsBuilder 169 5 B b bs w) :
  Calls Tryz.prog 143 #[.pointer (some ⟨b,0,none⟩)] w fun e w'=>e=.returned (.tuple #[])∧Lib.BuilderAt 169 5 B b (.pointer (some ⟨b,0,none⟩)) bs w'∧Only [b] w w':=by
 rcases h with h | h
 ·refine (zCe b w h.cell0 h.shape h.frozen0).mono ?_;rintro e w' ⟨rfl,rfl⟩;exact ⟨rfl,h.used _,Only.setCell _ ⟨b,0,none⟩ _⟩
 ·refine (zCy b w h.cell0).mono ?_;rintro e w' ⟨rfl,rfl⟩;exact ⟨rfl,h,Only.refl _ _⟩
theorem zBW (B b:Nat) (bs:List UInt8) (x:UInt8) (ww:World) (h:Lib.IsBuilder 169 5 B b (u8s bs) ww) (hb:bs.length+1≤140737488355328) (hB:B≤ww.heap.size) :
  Calls Tryz.prog 120 #[.pointer (some ⟨b,0,none⟩),.int .u8 (x.toNat:Int)] ww fun e w'=>e=.returned .nilIface∧Lib.IsBuilder 169 5 B b (u8s (bs ++ [x])) w'∧Below B ww w':=by
 have hcc:=zDZ B b (u8s bs) ww h
 go_enter Tryz.func120,Tryz.ntmps120
 go_wp2_with fail;refine hcc.mono ?_;rintro e w1 ⟨rfl,h1,ho1⟩;obtain ⟨hBb,v,hbk,hown,hne⟩:=h1;have r1:Row w1 b 169 [.pointer (some ⟨b,0,none⟩),v]:=hbk;have own1:Own w1 B 5 v (u8s bs):=hown;obtain ⟨p,c,rfl,hrd,hlc,hc,hnil,hpb⟩:=own1.rd;rw [jY] at own1 hne hlc r1;have hc1:=r1.cell (i:=1) rfl
 have hpb':b ∉ blk p:=by
  cases p with
  | none=>simp [blk]
  | some a=>simp [blk];intro e;apply hne;simp [Value.ownBlock,e]
 have on:=Only.alloc w1 (.cells #[.int .u8 (x.toNat:Int)] 5);have rn:=Row.new w1 5 (u8s [x]);obtain ⟨p',c',w2,hr,o2,h2,hp⟩:=zAx (P:=Tryz.prog) (n:=bs.length) (m:=1) (bytes:=1) (q:=some ⟨w1.heap.size,0,none⟩) (c:=1) (news:=u8s [x]) (t:=130) (ty:=130) _ Tryz.underlying130 infoByte rfl (own1.zB on) rn.rd0 (by rfl) (by simp) (fun v hv=>zBT hv) (by omega) (by omega) (by have:=on.size;have:=ho1.size;omega);have r2:=(r1.zB on).only h2 hpb';have hc1':=r2.cell (i:=1) rfl;have hf1':=r2.free 1;have r3:=r2.setCell 1 (.slice p' (bs.length+1) c')
 have o3:Only [b] w2 (w2.setCell ⟨b,1,none⟩ (.slice p' (bs.length+1) c')):=Only.setCell _ ⟨b,1,none⟩ _;have hbl:=r1.lt
 have hpb2:b ∉ blk p':=by
  rcases hp with rfl | ⟨g,rfl,hg⟩
  ·exact hpb'
  ·have:=on.size;simp [blk];omega
 have own3:Own (w2.setCell ⟨b,1,none⟩ (.slice p' (bs.length+1) c')) B 5 (.slice p' (bs.length+1) c') (u8s bs ++ u8s [x]):=o2.only o3 (fun k hk h=>by
  obtain rfl:=List.mem_singleton.1 h
  cases p' with
  | none=>simp [Value.ownBlock] at hk
  | some a=>simp [Value.ownBlock] at hk;exact hpb2 (by simp [blk,hk]))
 have hfin:Lib.IsBuilder 169 5 B b (u8s (bs ++ [x])) (w2.setCell ⟨b,1,none⟩ (.slice p' (bs.length+1) c')):=by
  right
  refine ⟨hBb,.slice p' (bs.length+1) c',r3,by rw [zBi];exact own3,fun h=>?_⟩
  cases p' with
  | none=>simp [Value.ownBlock] at h
  | some a=>simp [Value.ownBlock] at h;exact hpb2 (by simp [blk,h])
 have hbel:Below B ww (w2.setCell ⟨b,1,none⟩ (.slice p' (bs.length+1) c')):=by
  have hall:Only (b :: blk p) ww (w2.setCell ⟨b,1,none⟩ (.slice p' (bs.length+1) c')) :=
   ((ho1.mono (by simp)).trans ((on.mono (by simp)).trans h2 (fun i hi _=>List.mem_cons_of_mem b hi)) (fun i hi _=>hi)).trans o3 (by simp)
  refine hall.zCh hB (fun k hk=>?_)
  rcases List.mem_cons.1 hk with rfl | hk
  ·exact hBb
  ·cases p with
   | none=>simp [blk] at hk
   | some a=>simp [blk] at hk;subst hk;exact hpb a rfl
 have Hr:=Lib.hid hr;have Hfin:=Lib.hid hfin;have Hbel:=Lib.hid hbel;clear hr hfin hbel own3 o3 r3 r2 o2 h2 hp on rn own1 r1 hown hbk hcc h ho1 hne hrd
 go_wp2_with (first | (at_builtin;refine qP (s:=.tmp 11) (x:=.tmp 13) rfl rfl rfl rfl Hr.out ?_))
 go_ret
 exact ⟨rfl,Hfin.out,Hbel.out⟩
def zDr:Go.Shelf.Ren:=⟨fun | 169=>121 | n=>n,fun | 70=>167 | 9=>9 | 0=>0 | 72=>169 | 37=>130 | 127=>192 | 3=>3 | 5=>5 | n=>n,fun | n=>n⟩
theorem zFy:Go.Proofs.Lays.n169 Tryz.prog zDr:={
 mixed:=by kernel_rfl
 f169:=Tryz.func121.trans (congrArg some (by kernel_rfl))
 t0:=Tryz.underlying0
 a0:=Tryz.isAgg0
 z0:=Tryz.sizeOf0
 v0:=Tryz.zeroValue0
 t3:=Tryz.underlying3
 a3:=Tryz.isAgg3
 z3:=Tryz.sizeOf3
 v3:=Tryz.zeroValue3
 t9:=Tryz.underlying9
 a9:=Tryz.isAgg9
 z9:=Tryz.sizeOf9
 v9:=Tryz.zeroValue9
 t37:=Tryz.underlying130
 a37:=Tryz.isAgg130
 z37:=Tryz.sizeOf130
 v37:=Tryz.zeroValue130
 t70:=Tryz.underlying167
 a70:=Tryz.isAgg167
 z70:=Tryz.sizeOf167
 v70:=Tryz.zeroValue167
 t72:=Tryz.underlying169
 a72:=Tryz.isAgg169
 z72:=Tryz.sizeOf169
 v72:=Tryz.zeroValue169
 t127:=Tryz.underlying192
 a127:=Tryz.isAgg192
 z127:=Tryz.sizeOf192
 v127:=Tryz.zeroValue192 }
theorem zEt:Builder.Extra Tryz.prog zDr:={
 sizeBuilder:=by kernel_rfl
 liesBuilder:=by kernel_rfl
 t5:=Tryz.underlying5
 a5:=Tryz.isAgg5
 z5:=Tryz.sizeOf5
 v5:=Tryz.zeroValue5
 infoByte:=by kernel_rfl
 cellsByte:=by kernel_rfl
 sizeByte:=by kernel_rfl
 neB5:=by decide }
theorem zGC (B b:Nat) (l:List UInt8) (w:World) (h:Lib.IsBuilder 169 5 B b (u8s l) w) (hB:B≤w.heap.size) :
  Calls Tryz.prog 121 #[.pointer (some ⟨b,0,none⟩)] w fun e w'=>e=.returned (.string ⟨l.toArray⟩)∧Below B w w':=Any.Builder_String_any zFy zEt B b l w h hB
end
end Go.Proofs.YtfeglnpmpgipiaaGreatDoor
