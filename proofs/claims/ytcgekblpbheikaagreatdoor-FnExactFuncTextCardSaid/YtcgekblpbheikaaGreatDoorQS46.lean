/- Views of functions that own their memory: numbered. No condition. -/
import Derived.Test.YtcgekblpbheikaaGreatDoorQS42
namespace Go.Proofs.YtcgekblpbheikaaGreatDoor
set_option maxRecDepth 100000
set_option linter.unusedSimpArgs false
set_option linter.unusedVariables false
structure VW (n0:Nat) (A:AFunc) (F:Func) (w f b:Nat) (G:Heap):Prop where
  view:G[w]? = some (.row 5 [[.d (.int .i64 A.params_),.sl A.blocks_.id 5 0 A.blocks_.l.length,.sl f 1 0 (viewD F).first_.length,.sl b 1 0 (viewD F).block_.length,.d (.int .i64 (many F))]])
  fr:G[f]? = some (.row 1 (rI (viewD F).first_))
  br:G[b]? = some (.row 1 (rI (viewD F).block_))
  ge:n0≤w∧n0≤f∧n0≤b
structure NV (H:Heap) (A:AFunc) (F:Func) (i:Nat) (fl bl:List Int) (tot:Int) (vf:V) (b:Nat) (H1:Heap):Prop where
  view:H1[H.length + 3]? = some (.row 5 [[.d (.int .i64 A.params_),.sl A.blocks_.id 5 0 A.blocks_.l.length,vf,.sl b 1 0 bl.length,.d (.int .i64 tot)]])
  gf:Gr (H.length + 4) fl vf H1
  gb:H1[b]? = some (.row 1 (rI bl))
  hb:H.length + 2≤b∧b ≠ H.length + 3
  ne:0 < fl.length→vf.slId ≠ b
  old:Only [] H H1
  le:i≤A.blocks_.l.length
  lf:fl.length=i
  lb:bl.length≤1000 * (i + 1)
  ef:fl++firsts (F.blocks_.drop i) tot=firsts F.blocks_ F.params_
  eb:bl++blkOf (F.blocks_.drop i) i=List.replicate F.params_.toNat (-1)++blkOf F.blocks_ 0
  ec:cntB (F.blocks_.drop i) tot=many F
theorem NV.step {H:Heap} {A:AFunc} {F:Func} {i:Nat} {fl bl:List Int} {tot:Int} {vf:V} {b:Nat} {H1 X:Heap} (k:NV H A F i fl bl tot vf b H1) (hl:X.length=H1.length) (hX:∀ j,(0 < fl.length→j ≠ vf.slId)→X[j]? = H1[j]?) {x:Block} {rest:List Block} (hd:F.blocks_.drop i=x :: rest) (hr:F.blocks_.drop (i + 1)=rest) (hi:i < A.blocks_.l.length) {sz:Int} (hz:IntKind.i64.wrap (x.params_ + x.insts_.length)=sz) (z0:0≤sz) (z1:sz≤84)
    {c0 c1 c3 c4:Place} {frow brow:List (List V)} {fn bn:Nat} (h1:fn=fl.length + 1) (h2:bn=bl.length + sz.toNat) (h3:frow=rI (fl++[tot])) (h4:brow=rI (bl++List.replicate sz.toNat (i:Int))) :
    NV H A F (i + 1) (fl++[tot]) (bl++List.replicate sz.toNat (i:Int)) (IntKind.i64.wrap (tot + sz)) (.sl (H1.length + 2) 1 0 fn) (H1.length + 5)
      ((X.set (H.length + 3) (.row 5 [[.d (.int .i64 A.params_),.sl A.blocks_.id 5 0 A.blocks_.l.length,.sl (H1.length + 2) 1 0 fn,.sl (H1.length + 5) 1 0 bn,.d (.int .i64 (IntKind.i64.wrap (tot + sz)))]])).set b .dead++[c0,c1,.row 1 frow,c3,c4,.row 1 brow]):=by
  have lv:H.length + 3 < H1.length:=(List.getElem?_eq_some_iff.1 k.view).1
  have nb:=k.hb
  have hf:0 < fl.length→H.length + 4≤vf.slId:=fun h=>by
    rcases k.gf with ⟨q,_⟩ | ⟨f,rfl,_,q,_⟩
    · rw [q] at h;exact absurd h (by simp)
    · exact q
  have L:∀ p q,((X.set (H.length + 3) p).set b q).length=H1.length:=fun p q=>by simp [hl]
  refine ⟨?_,.inr ⟨H1.length + 2,by rw [h1,List.length_append];rfl,by simp,by omega, ?_⟩, ?_,by omega,fun _=>by show H1.length + 2 ≠ H1.length + 5;omega,⟨by simp [hl];have:=k.old.len;omega,fun j hj _=>?_⟩,by omega,by rw [List.length_append,k.lf];rfl, ?_, ?_, ?_, ?_⟩
  · rw [List.getElem?_append_left (by rw [L];omega),List.getElem?_set_ne (by omega),List.getElem?_set_self (by omega),h2,List.length_append,List.length_replicate]
  · rw [List.getElem?_append_right (by rw [L];omega),L,Nat.add_sub_cancel_left,h3];rfl
  · rw [List.getElem?_append_right (by rw [L];omega),L,Nat.add_sub_cancel_left,h4];rfl
  · rw [List.getElem?_append_left (by rw [L];omega),List.getElem?_set_ne (by omega),List.getElem?_set_ne (by omega),hX j fun h=>by have:=hf h;omega]
    exact k.old.at_ j hj List.not_mem_nil
  · have:=k.lb
    rw [List.length_append,List.length_replicate];omega
  · have:=k.ef
    rw [hd,firsts,hz] at this
    rw [hr,List.append_assoc];exact this
  · have:=k.eb
    rw [hd,blkOf,hz] at this
    rw [hr,List.append_assoc];exact this
  · have:=k.ec
    rw [hd,cntB_cons,hz] at this
    rw [hr];exact this
end Go.Proofs.YtcgekblpbheikaaGreatDoor
