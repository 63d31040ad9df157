/- The walk over the blocks: leaving some out. No condition. -/
import Derived.Test.YtbmloeahcdneaaaGreatQS79
namespace Go.Proofs.YtbmloeahcdneaaaGreat
set_option maxRecDepth 100000
set_option linter.unusedSimpArgs false
set_option linter.unusedVariables false
theorem sub_flatMap {α γ:Type} (f:α→List γ) {l' l:List α} (h:l'.Sublist l):(l'.flatMap f).Sublist (l.flatMap f):=by
  induction h with
  | slnil=>exact List.Sublist.refl _
  | cons a h ih=>rw [List.flatMap_cons];exact ih.trans (List.sublist_append_right _ _)
  | cons_cons a h ih=>rw [List.flatMap_cons,List.flatMap_cons];exact (List.Sublist.refl _).append ih
theorem OwnL.sub {α β:Type} [Enc β] [Dec β] [Inhabited β] [Tr α β] {H:Heap} {l' l:List α} (h:OwnL H l) (hs:l'.Sublist l):OwnL H l' :=
  ⟨fun a ha=>h.ok a (hs.subset ha),fun q hq=>h.at_ q ((sub_flatMap _ hs).subset hq),h.nd.sublist (sub_flatMap _ hs)⟩
theorem flt_sub {α:Type} [Inhabited α] (pv:Int→Bool) (base:Nat) {l:List α} {i:Nat} (hi:i≤l.length):(flt pv base l i).Sublist l:=by
  have e:(List.range i).map (fun j=>l[j]?.getD default)=l.take i:=by
    refine List.ext_getElem (by simp;omega) fun j h1 h2=>?_
    have:j < l.length:=by simp at h1;omega
    simp [List.getElem?_eq_getElem this]
  have:=(List.filter_sublist (p:=fun j=>!pv ((base + j:Nat):Int)) (l:=List.range i)).map (fun j=>l[j]?.getD default)
  rw [e] at this
  exact this.trans (List.take_sublist _ _)
theorem flt_map {α γ:Type} [Inhabited α] [Inhabited γ] (f:α→γ) (pv:Int→Bool) (base:Nat) {l:List α} {i:Nat} (hi:i≤l.length):(flt pv base l i).map f=flt pv base (l.map f) i:=by
  unfold flt
  rw [List.map_map]
  refine List.map_congr_left fun j hj=>?_
  have:=List.mem_range.1 (List.mem_filter.1 hj).1
  simp [List.getElem?_eq_getElem (show j < l.length by omega)]
def wB (F:Func) (pv pb:Int→Bool) (j:Nat):Block :=
  let b:=mpB (fun x=>numW F pv pb x.toNat) (F.blocks_[j]?.getD default)
  ⟨b.params_,flt pv (fstN F j + b.params_.toNat) b.insts_ b.insts_.length,b.end_,b.value_,b.jumps_.map (toJ pb)⟩
def outB (F:Func) (pv pb:Int→Bool) (k:Nat):List Block:=((List.range k).filter fun j:Nat=>!pb j).map (wB F pv pb)
def withoutF (F:Func) (pv pb:Int→Bool):Func:=⟨F.params_,outB F pv pb F.blocks_.length⟩
theorem outB_succ (F:Func) (pv pb:Int→Bool) (k:Nat):outB F pv pb (k + 1)=outB F pv pb k++if pb k=true then [] else [wB F pv pb k]:=by
  unfold outB
  rw [List.range_succ,List.filter_append,List.map_append]
  congr 1
  simp only [List.filter_cons,List.filter_nil]
  cases q:pb k <;> rfl
theorem jump_to {F : Func} (hg : goodF F = true) {b : Block} (hb : b ∈ F.blocks_) {j : Jump} (hj : j ∈ b.jumps_) : 0 ≤ j.to_ ∧ j.to_ < F.blocks_.length := by
  obtain ⟨m0,m80⟩:=many_rng hg
  have hl:=(lay hg).len
  have h2:=(goodF_body hg hb).2
  have hjo:jumpOk F.blocks_ (many F) j=true:=by
    have q:jumpsOk F.blocks_ (many F) b.jumps_=true:=by
      unfold endsOk at h2
      split at h2
      · simp only [Bool.and_eq_true] at h2;exact h2.2.2
      · split at h2
        · simp only [Bool.and_eq_true] at h2;exact h2.2.2
        · split at h2
          · simp only [Bool.and_eq_true] at h2;exact h2.2.2
          · cases h2
    exact List.all_eq_true.1 q j hj
  simp only [jumpOk,Bool.and_eq_true,decide_eq_true_eq] at hjo
  have:=inR_index (by omega) hjo.1
  omega
structure BL {α:Type} [Tr α Block] (H:Heap) (F:Func) (pv pb:Int→Bool) (nb br t14:Nat) (bs:AS α) (k:Nat) (vo:V) (lo:List α) (G:Heap):Prop where
  own:OwnL G (lo++bs.l.drop k)
  row:G[bs.id]? = some (.row 5 (bs.l.map Tr.cells))
  out:G[t14]? = some (.row 2 [[.d (.int .i64 F.params_),vo]])
  rb:G[br]? = some (.row 1 (fillR nb nb (fun j=>[.d (.int .i64 (bnoW pb j))]) [.d (.int .i64 0)]))
  res:G[H.length]? = some (.row 2 [[.d (.int .i64 0),.d .nilsl]])
  vo:(lo=[]∧vo=.d .nilsl)∨∃ id,vo=.sl id 5 0 lo.length∧0 < lo.length∧G[id]? = some (.row 5 (lo.map Tr.cells))∧H.length < id∧id ≠ t14∧id ≠ br∧id ≠ bs.id∧id ∉ (lo++bs.l.drop k).flatMap ids
  fr:∀ j∈(lo++bs.l.drop k).flatMap ids,H.length < j∧j ≠ t14∧j ≠ br∧j ≠ bs.id
  only:Only [] H G
  era:lo.map Tr.era=outB F pv pb k
  le:k≤bs.l.length
theorem BL.skip {α:Type} [Tr α Block] {H:Heap} {F:Func} {pv pb:Int→Bool} {nb br t14:Nat} {bs:AS α} {k:Nat} {vo:V} {lo:List α} {G G':Heap} (h:BL H F pv pb nb br t14 bs k vo lo G) (hk:k < bs.l.length) (hp:pb k=true) (ho:Only [] G G'):BL H F pv pb nb br t14 bs (k + 1) vo lo G':=by
  have hs:(lo++bs.l.drop (k + 1)).Sublist (lo++bs.l.drop k):=by
    rw [List.drop_eq_getElem_cons hk]
    exact (List.Sublist.refl _).append (List.sublist_cons_self _ _)
  have hf:=(sub_flatMap (ids (α:=α)) hs).subset
  have kp:∀ j P,G[j]? = some P→G'[j]? = some P:=fun j P q=>(ho.at_ j (List.getElem?_eq_some_iff.1 q).1 List.not_mem_nil).trans q
  refine ⟨(h.own.sub hs).frame ho fun j _ hj=>absurd hj List.not_mem_nil,kp _ _ h.row,kp _ _ h.out,kp _ _ h.rb,kp _ _ h.res, ?_,fun j hj=>h.fr j (hf hj),h.only.trans ho (fun j hj=>hj) fun j hj _=>hj, ?_,hk⟩
  · rcases h.vo with q | ⟨id,q1,q2,q3,q4,q5,q6,q7,q8⟩
    · exact .inl q
    · exact .inr ⟨id,q1,q2,kp _ _ q3,q4,q5,q6,q7,fun q=>q8 (hf q)⟩
  · rw [outB_succ,if_pos hp,List.append_nil];exact h.era
theorem BL.add {α:Type} [Tr α Block] {H:Heap} {F:Func} {pv pb:Int→Bool} {nb br t14:Nat} {bs:AS α} {k:Nat} {vo:V} {lo:List α} {G G':Heap} (h:BL H F pv pb nb br t14 bs k vo lo G) (hp:pb k=false) (c1:H.length < t14∧t14 ≠ br∧t14 ≠ bs.id∧H.length < br∧H.length < bs.id)
    {b b':α} (hb:bs.l[k]? = some b) {id':Nat} (hO:Own G' b') (hi:∀ j∈ids b',j∈ids b∨G.length≤j) (he:Tr.era b'=wB F pv pb k) (hl:G.length≤G'.length)
    (hs:∀ j,j < G.length→j ∉ ids b→j ≠ t14→(0 < lo.length→j ≠ vo.slId)→G'[j]? = G[j]?) (ht:G'[t14]? = some (.row 2 [[.d (.int .i64 F.params_),.sl id' 5 0 (lo.length + 1)]])) (hr:G'[id']? = some (.row 5 ((lo++[b']).map Tr.cells))) (hid:G.length≤id') (hn:id' ∉ ids b') :
    BL H F pv pb nb br t14 bs (k + 1) (.sl id' 5 0 (lo.length + 1)) (lo++[b']) G':=by
  have hk:=(List.getElem?_eq_some_iff.1 hb).1
  have ed:bs.l.drop k=b :: bs.l.drop (k + 1):=by
    rw [List.drop_eq_getElem_cons hk]
    rw [List.getElem?_eq_getElem hk] at hb
    rw [Option.some.inj hb]
  have el:lo++[b']++bs.l.drop (k + 1)=lo++b' :: bs.l.drop (k + 1):=by simp
  have hown:=h.own
  have hfr:=h.fr
  have hvo:=h.vo
  rw [ed] at hown hfr hvo
  have mem:∀ j,j∈(lo++b :: bs.l.drop (k + 1)).flatMap ids ↔ j∈lo.flatMap ids∨j∈ids b∨j∈(bs.l.drop (k + 1)).flatMap ids:=fun j=>by rw [List.flatMap_append,List.flatMap_cons,List.mem_append,List.mem_append]
  have hnd:=hown.nd
  rw [List.flatMap_append,List.flatMap_cons] at hnd
  obtain ⟨n1,n2,n3⟩:=List.nodup_append.1 hnd
  obtain ⟨n4,n5,n6⟩:=List.nodup_append.1 n2
  have lt14:=(List.getElem?_eq_some_iff.1 h.out).1
  have ltb:=(List.getElem?_eq_some_iff.1 h.rb).1
  have ltr:=(List.getElem?_eq_some_iff.1 h.res).1
  have lts:=(List.getElem?_eq_some_iff.1 h.row).1
  have vn:0 < lo.length→H.length < vo.slId∧vo.slId ≠ t14∧vo.slId ≠ br∧vo.slId ≠ bs.id∧vo.slId ∉ (lo++b :: bs.l.drop (k + 1)).flatMap ids:=fun q=>by
    rcases hvo with ⟨q1,_⟩ | ⟨id,rfl,q2,q3,q4,q5,q6,q7,q8⟩
    · rw [q1] at q;exact absurd q (by simp)
    · exact ⟨q4,q5,q6,q7,q8⟩
  have ib:∀ j,j∈ids b→H.length < j∧j ≠ t14∧j ≠ br∧j ≠ bs.id:=fun j hj=>hfr j ((mem j).2 (.inr (.inl hj)))
  have rest:∀ j,j∈lo.flatMap ids∨j∈(bs.l.drop (k + 1)).flatMap ids→j < G.length∧G'[j]? = G[j]?:=fun j hj=>by
    have hm:j∈(lo++b :: bs.l.drop (k + 1)).flatMap ids:=(mem j).2 (hj.elim .inl fun q=>.inr (.inr q))
    have hlt:=hown.lt hm
    refine ⟨hlt,hs j hlt (fun q=>?_) (hfr j hm).2.1 fun q e=>(vn q).2.2.2.2 (e ▸ hm)⟩
    rcases hj with hj | hj
    · exact n3 j hj j (List.mem_append_left _ q) rfl
    · exact n6 j q j hj rfl
  have lG:H.length < G.length:=ltr
  have mem':∀ j,j∈(lo++[b']++bs.l.drop (k + 1)).flatMap ids→(j∈lo.flatMap ids∨j∈(bs.l.drop (k + 1)).flatMap ids)∨j∈ids b':=fun j hj=>by
    rw [el,List.flatMap_append,List.flatMap_cons,List.mem_append,List.mem_append] at hj
    rcases hj with hj | hj | hj
    · exact .inl (.inl hj)
    · exact .inr hj
    · exact .inl (.inr hj)
  refine ⟨?_, ?_, ?_, ?_, ?_,.inr ⟨id',by rw [List.length_append];rfl,by simp,hr,by omega,by omega,by omega,by omega,fun q=>?_⟩,fun j hj=>?_, ?_, ?_,hk⟩
  · rw [el]
    exact hown.put hO hi fun j hj=>(rest j (List.mem_append.1 hj)).2
  · exact (hs _ lts (fun q=>(ib _ q).2.2.2 rfl) (fun e=>c1.2.2.1 e.symm) fun q e=>(vn q).2.2.2.1 e.symm).trans h.row
  · rw [ht]
  · exact (hs _ ltb (fun q=>(ib _ q).2.2.1 rfl) (fun e=>c1.2.1 e.symm) fun q e=>(vn q).2.2.1 e.symm).trans h.rb
  · exact (hs _ ltr (fun q=>Nat.lt_irrefl _ (ib _ q).1) (by omega) fun q e=>by have:=(vn q).1;omega).trans h.res
  · rcases mem' _ q with q | q
    · have:=(rest _ q).1;omega
    · exact hn q
  · rcases mem' _ hj with q | q
    · exact hfr j ((mem j).2 (q.elim .inl fun q=>.inr (.inr q)))
    · rcases hi j q with q | q
      · exact ib j q
      · omega
  · have hol:=h.only.len
    exact ⟨by omega,fun j hj _=>(hs j (by omega) (fun q=>by have:=(ib _ q).1;omega) (by omega) fun q e=>by have:=(vn q).1;omega).trans (h.only.at_ j hj List.not_mem_nil)⟩
  · rw [outB_succ,if_neg (by rw [hp];simp),List.map_append,h.era,List.map_singleton,he]
theorem newB {H1 H3 H4:Heap} {b:ABlock} (hO:Own H1 b) {m:List AInst} (hm:m.Sublist b.insts_.l) {id:Nat} (hid:H1.length≤id) (heq:∀ j,j < H1.length→H3[j]? = H1[j]?) (hr:H3[id]? = some (.row 3 (m.map Tr.cells))) {js:AS AJump} (hmd:Made H3 H4 b.jumps_ js) :
    Own H4 (⟨b.params_,⟨.sl id 3 0 m.length,m⟩,b.end_,b.value_,js⟩:ABlock)∧∀ j∈ids (⟨b.params_,⟨.sl id 3 0 m.length,m⟩,b.end_,b.value_,js⟩:ABlock),j∈ids b∨j=id:=by
  have hI:=ABlock.own_insts_ hO
  have hJ:=ABlock.own_jumps_ hO
  have hap:=ABlock.apart hO
  have hi:ids (⟨.sl id 3 0 m.length,m⟩:AS AInst)=id :: m.flatMap ids:=ids_sl (s:=(⟨.sl id 3 0 m.length,m⟩:AS AInst)) rfl
  have hmi:∀ j∈m.flatMap ids,j∈ids b.insts_:=fun j hj=>by
    have q:=(sub_flatMap ids hm).subset hj
    have q2:0 < b.insts_.l.length:=by
      obtain ⟨x,hx,_⟩:=List.mem_flatMap.1 q
      exact List.length_pos_of_mem hx
    rw [(hI.row q2).2.2.2]
    exact List.mem_cons_of_mem _ q
  have hjs:ids js=ids b.jumps_:=hmd.ids
  have h34:∀ j,j < H3.length→j ∉ ids b.jumps_→H4[j]? = H3[j]?:=fun j h1 h2=>hmd.only.at_ j h1 h2
  have hid3:=(List.getElem?_eq_some_iff.1 hr).1
  have hidj:id ∉ ids b.jumps_:=fun q=>by have:=hJ.lt q;omega
  have oL:OwnL H4 m:=(hI.elems.sub hm).same fun j hj hl=>by
    have q:=hmi j hj
    rw [h34 j (by omega) (hap j q)]
    exact heq j hl
  refine ⟨ABlock.own (x:=⟨b.params_,⟨.sl id 3 0 m.length,m⟩,b.end_,b.value_,js⟩) (Own.mkS oL ((h34 id hid3 hidj).trans hr) fun q=>?_) hmd.own fun j hj hk=>?_,fun j hj=>?_⟩
  · have:=hI.lt (hmi _ q);omega
  · replace hj:j∈id :: m.flatMap ids:=hi ▸ hj
    replace hk:j∈ids b.jumps_:=hjs ▸ hk
    rcases List.mem_cons.1 hj with rfl | hj
    · exact hidj hk
    · exact hap j (hmi j hj) hk
  · rw [ids_ABlock] at hj
    rcases List.mem_append.1 hj with hj | hj
    · replace hj:j∈id :: m.flatMap ids:=hi ▸ hj
      rcases List.mem_cons.1 hj with rfl | hj
      · exact .inr rfl
      · exact .inl (by rw [ids_ABlock];exact List.mem_append_left _ (hmi j hj))
    · replace hj:j∈ids b.jumps_:=hjs ▸ hj
      exact .inl (by rw [ids_ABlock];exact List.mem_append_right _ hj)
end Go.Proofs.YtbmloeahcdneaaaGreat
