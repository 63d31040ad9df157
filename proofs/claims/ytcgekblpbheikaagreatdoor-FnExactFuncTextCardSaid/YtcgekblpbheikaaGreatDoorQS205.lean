/- strings.Builder: what it is like in a world; copyCheck, WriteString and String. No condition. -/
import Derived.Test.YtcgekblpbheikaaGreatDoorQS200
import Derived.Test.YtcgekblpbheikaaGreatDoorQE13
namespace Go.Proofs.YtcgekblpbheikaaGreatDoor
open Go.Shelf
set_option maxRecDepth 100000
set_option linter.unusedSimpArgs false
set_option linter.unusedVariables false
theorem lays240:Lays.n240 Tryz.prog Tryz.lays156_ren:={ Tryz.lays156 with }
def bldAt (b:Nat) (w:World) (bs:List UInt8) (U:Nat→Prop):Prop :=
  ∃ p v,w.heap[b]? = some (.cells #[p,v] 143 (0,0))∧(p=.pointer none∨p=.pointer (some ⟨b,0,none⟩))∧w.ownsRow 0 5 1 v bs.length (Lib.byteCells bs)∧v.ownBlock ≠ some b∧∀ g,U g ↔ (g=b∨v.ownBlock=some g)
theorem ownsRow_lt {w:World} {v:Value} {n:Nat} {xs:List Value} (h:w.ownsRow 0 5 1 v n xs) {g:Nat} (hg:v.ownBlock=some g):g < w.heap.size:=by
  rcases h.2 with ⟨rfl,_⟩ | ⟨g',cap,cur,rfl,_,q,_⟩
  · cases hg
  · cases hg
    exact (Array.getElem?_eq_some_iff.1 q).1
theorem ownsRow_keep {w w':World} {v:Value} {n:Nat} {xs:List Value} (h:w.ownsRow 0 5 1 v n xs) (hk:∀ g,v.ownBlock=some g→w'.heap[g]? = w.heap[g]?):w'.ownsRow 0 5 1 v n xs:=by
  refine ⟨h.1, ?_⟩
  rcases h.2 with h1 | ⟨g,cap,cur,rfl,h1,h2,h3⟩
  · exact .inl h1
  · exact .inr ⟨g,cap,cur,rfl,h1,(hk g rfl).trans h2,h3⟩
def bldT (b:Nat):Thing (Option (List UInt8)) where
  at_ w k U:=match k with
    | some bs=>bldAt b w bs U
    | none=>∀ g,U g→g < w.heap.size
  lt:=by
    intro w k U h g hg
    cases k with
    | none=>exact h g hg
    | some bs =>
      obtain ⟨p,v,h1,_,h3,_,h5⟩:=h
      rcases (h5 g).1 hg with rfl | q
      · exact (Array.getElem?_eq_some_iff.1 h1).1
      · exact ownsRow_lt h3 q
  keep:=by
    intro w w' k U h hk
    cases k with
    | none =>
      intro g hg
      have h1:=hk g hg
      have h2:g < w.heap.size:=h g hg
      rw [Array.getElem?_eq_getElem h2] at h1
      exact (Array.getElem?_eq_some_iff.1 h1).1
    | some bs =>
      obtain ⟨p,v,h1,h2,h3,h4,h5⟩:=h
      exact ⟨p,v,(hk b ((h5 b).2 (.inl rfl))).trans h1,h2,ownsRow_keep h3 fun g hg=>hk g ((h5 g).2 (.inr hg)),h4,h5⟩
theorem append_w (w : World) (v : Value) (bs : List UInt8) (s : ByteArray) (h : w.ownsRow 0 5 1 v bs.length (Lib.byteCells bs)) (hl : bs.length + s.size ≤ 1000000000) :
    ∃ v' w',(∀ ty,(Builtin.append_ #[34,9] ty #[v,.string s]).run Tryz.prog w=.ok v' w')∧w'.ownsRow 0 5 1 v' (bs++s.data.toList).length (Lib.byteCells (bs++s.data.toList))∧w.grownBy w' v.ownBlock∧Sizes w w'∧(v'.ownBlock=v.ownBlock∨∃ g,v'.ownBlock=some g∧w.heap.size≤g):=by
  obtain ⟨i0,hi,hz0,hz1,hz2⟩:=info_parts extra156.infoByte
  have hsl:s.data.toList.length=s.size:=Array.length_toList
  have ee:Lib.byteCells bs++Lib.strCells s=Lib.byteCells (bs++s.data.toList):=by unfold Lib.byteCells Lib.strCells;rw [List.map_append]
  have el:bs.length + s.size=(bs++s.data.toList).length:=by rw [List.length_append,hsl]
  have key:∀ ty,∃ v' w',(Builtin.append_ #[34,9] ty #[v,.string s]).run Tryz.prog w=.ok v' w'∧w'.ownsRow 0 5 1 v' (bs++s.data.toList).length (Lib.byteCells (bs++s.data.toList))∧w.grownBy w' v.ownBlock:=fun ty=>by
    obtain ⟨v',w',h1,h2,h3,_⟩:=Lib.run_append_own_string (P:=Tryz.prog) w 0 34 9 ty 5 i0 Tryz.underlying34 Tryz.underlying9 hi hz0 hz1 hz2 v bs.length _ h s (by unfold maxLen;omega) (by omega) (Nat.zero_le _)
    rw [el,ee] at h2
    exact ⟨v',w',h1,h2,h3⟩
  have hsrc:Src Tryz.prog w i0.size (.string s) s.data.toList.length (s.data.toList.map fun b=>.int .u8 (b.toNat:Int)):=by rw [hz1];exact Src.str s
  have exact_:∃ v' w',(∀ ty,(Builtin.append_ #[34,9] ty #[v,.string s]).run Tryz.prog w=.ok v' w')∧Sizes w w'∧(v'.ownBlock=v.ownBlock∨∃ g,v'.ownBlock=some g∧w.heap.size≤g):=by
    have up:∀ (A:Option Addr) (n cap:Nat) (olds:List Value),v=.slice A n cap→n=bs.length→(∀ W:World,W.heap=w.heap→(Builtin.firstCells i0.size n (.slice A n cap)).run Tryz.prog W=.ok olds.toArray W)→cap < n + s.data.toList.length →
        ∃ v' w',(∀ ty,(Builtin.append_ #[34,9] ty #[v,.string s]).run Tryz.prog w=.ok v' w')∧Sizes w w'∧(v'.ownBlock=v.ownBlock∨∃ g,v'.ownBlock=some g∧w.heap.size≤g):=by
      rintro A n cap olds rfl hn hof hlt
      refine ⟨_,_,fun ty=>run_append_up (ty:=ty) Tryz.underlying34 (.inr Tryz.underlying9) hi hz0 hsrc A n cap olds hof hlt (by omega) (by rw [hz2];omega), ?_,.inr ⟨_,rfl,Nat.le_refl _⟩⟩
      exact (Sizes.heap (w:=w) (w':=w.drew) rfl).trans (Fr.alloc w.drew (fun _=>False) _).sizes
    rcases h.2 with ⟨rfl,h0⟩ | ⟨g,cap,cur,rfl,_,hg,hnc,hcm,hcs,htk⟩
    · have hb0:bs=[]:=List.length_eq_zero_iff.1 h0
      subst hb0
      by_cases hs0:s.data.toList.length=0
      · have hsn:s.data.toList=[]:=List.length_eq_zero_iff.1 hs0
        refine ⟨_,w,fun ty=>run_append_in0 (ty:=ty) Tryz.underlying34 (.inr Tryz.underlying9) hi (v:=.string s) (by rw [hsn] at hsrc;exact hsrc) none 0 0 (Nat.le_refl _),Sizes.refl w,.inl rfl⟩
      · exact up none 0 0 [] rfl rfl (fun W _=>by simp [Builtin.firstCells]) (by omega)
    · have hcl:cur.toList.length=cur.size:=Array.length_toList
      have hbm:(Array.mk bs).size=bs.length:=rfl
      by_cases hin:bs.length + s.data.toList.length≤cap
      · refine ⟨_,_,fun ty=>run_append_in (ty:=ty) Tryz.underlying34 (.inr Tryz.underlying9) hi hsrc g 0 bs.length cap cur _ hg (fun u hu=>?_) hin ?_, ?_,.inl rfl⟩
        · obtain ⟨c,_,rfl⟩:=List.mem_map.1 hu;rfl
        · rw [List.length_map,hz1,hcs];omega
        · refine (Fr.setRow (own:=fun _=>True) hg ?_ trivial).sizes
          show (List.toArray _).size=_
          rw [List.size_toArray,List.length_append,List.length_append,List.length_take,List.length_drop,List.length_map,hz1,Array.length_toList,hcs]
          omega
      · refine up (some ⟨g,0,none⟩) bs.length cap (cur.toList.take (bs.length * 1)) rfl rfl (fun W hW=>?_) (by omega)
        rw [hz1]
        refine run_firstCells_some W 1 bs.length ⟨g,0,none⟩ bs.length cap _ ?_ fun j u hj=>?_
        · rw [List.length_take,Array.length_toList];omega
        · rw [List.getElem?_take] at hj
          split at hj
          · have e:W.cell? ((⟨g,0,none⟩:Addr).add j)=w.cell? ((⟨g,0,none⟩:Addr).add j):=by unfold World.cell?;rw [hW]
            rw [e,add_plain',cell_of_row w g _ cur _ _ hg]
            simpa using hj
          · cases hj
  obtain ⟨v',w',e1,e2,e3⟩:=exact_
  obtain ⟨v2,w2,k1,k2,k3⟩:=key 0
  rw [e1 0] at k1
  cases k1
  exact ⟨v',w',e1,k2,k3,e2,e3⟩
structure Kp (w w':World) (U:Nat→Prop):Prop where
  os:w'.os=w.os
  tape:w'.tape=w.tape
  output:w'.output=w.output
  size:w.heap.size≤w'.heap.size
  block:∀ g,g < w.heap.size→¬ U g→w'.heap[g]? = w.heap[g]?
  sizes:Sizes w w'
theorem Kp.refl (w:World) (U:Nat→Prop):Kp w w U:=⟨rfl,rfl,rfl,Nat.le_refl _,fun _ _ _=>rfl,Sizes.refl w⟩
theorem Kp.trans {a b c:World} {U U':Nat→Prop} (h:Kp a b U) (k:Kp b c U') (hu:∀ g,g < a.heap.size→U' g→U g):Kp a c U :=
  ⟨k.os.trans h.os,k.tape.trans h.tape,k.output.trans h.output,Nat.le_trans h.size k.size,fun g hg hn=>(k.block g (Nat.lt_of_lt_of_le hg h.size) fun q=>hn (hu g hg q)).trans (h.block g hg hn),h.sizes.trans k.sizes⟩
theorem Kp.mono {a b:World} {U U':Nat→Prop} (h:Kp a b U) (hu:∀ g,U g→U' g):Kp a b U':=⟨h.os,h.tape,h.output,h.size,fun g hg hn=>h.block g hg fun q=>hn (hu g q),h.sizes⟩
theorem Kp.setCell {w:World} {b i:Nat} {cs:Array Value} {t:TypeId} {v:Value} (hb:w.heap[b]? = some (.cells cs t (0,0))):Kp w (w.setCell ⟨b,i,none⟩ v) (· = b):=by
  refine ⟨rfl,rfl,rfl,by simp,fun g _ hn=>heap_setCell_other w _ g v hn,fun g c u f hg=>?_⟩
  by_cases e:g=b
  · subst e
    rw [hb] at hg
    cases hg
    exact ⟨_,_,heap_setCell_same w _ i cs t v hb,by simp⟩
  · exact ⟨c,f,(heap_setCell_other w _ g v e).trans hg,rfl⟩
theorem copyCheck_w (b:Nat) (p v:Value) (w:World) (hb:w.heap[b]? = some (.cells #[p,v] 143 (0,0))) (hp:p=.pointer none∨p=.pointer (some ⟨b,0,none⟩)) :
    Calls Tryz.prog 173 #[.pointer (some ⟨b,0,none⟩)] w fun e w'=>e=.returned (.tuple #[])∧w'.heap[b]? = some (.cells #[.pointer (some ⟨b,0,none⟩),v] 143 (0,0))∧Kp w w' (· = b):=by
  have c0:w.cell? ⟨b,0,none⟩=some p:=by rw [Lib.cell_of_heap hb];rfl
  rcases hp with rfl | rfl
  · refine (Any.Builder_copyCheck_fresh lays240 extra156.toX72 b w c0 (by simp [World.shape?,hb];rfl) (Lib.frozen_of_heap hb 0)).mono ?_
    rintro e w' ⟨rfl,rfl⟩
    exact ⟨rfl,heap_setCell_same w b 0 _ _ _ hb,Kp.setCell hb⟩
  · refine (Any.Builder_copyCheck_used lays240 extra156.toX72 b w c0).mono ?_
    rintro e w' ⟨rfl,rfl⟩
    exact ⟨rfl,hb,Kp.refl _ _⟩
theorem wpList_app {P:Program} {w:World} {ops:Array Oper} {rest:List Oper} {o:Oper} {a:Act} {Q:Exit→Act→World→Prop} (hgd:o.guard=none) (sl x:Operand) (t u:TypeId)
    (ho:o.op=.call { callee:=.builtin .append,args:=#[sl,x],argTypes:=#[t,u] }) (v:Value) (s:ByteArray) (hs:a.eval sl=v) (hx:a.eval x=.string s) (v':Value) (w':World)
    (hr:(Builtin.append_ #[t,u] o.type #[v,.string s]).run P w=.ok v' w') (h:wpList P ops Q rest (a.put o.dst v') w'):wpList P ops Q (o :: rest) a w:=by
  refine wpList_plain hgd fun K hK=>?_
  unfold Oper.wp execOp
  simp only [ho,resolve,invoke,builtin,Sem.run_bind,Sem.run_pure,Result.andThen_ok,List.map_toArray,List.map_cons,List.map_nil,hs,hx,hr]
  exact hK _ _ h
set_option maxHeartbeats 2000000 in
theorem write_w (b:Nat) (bs:List UInt8) (s:ByteArray) (w:World) (U:Nat→Prop) (h:bldAt b w bs U) (hl:bs.length + s.size≤1000000000) :
    Calls Tryz.prog 100 #[.pointer (some ⟨b,0,none⟩),.string s] w fun e w'=>(∃ v,e=.returned v)∧∃ U',bldAt b w' (bs++s.data.toList) U'∧(∀ g,U' g→U g∨w.heap.size≤g)∧Kp w w' U:=by
  obtain ⟨p,v,h1,h2,h3,h4,h5⟩:=h
  have hbl:b < w.heap.size:=(Array.getElem?_eq_some_iff.1 h1).1
  go_enter Tryz.func100,Tryz.ntmps100
  go_wp2_with (go_at_call 173;refine (copyCheck_w b p v w h1 h2).mono ?_)
  rintro e w1 ⟨rfl,hb1,k1⟩
  have c0:w1.cell? ⟨b,0,none⟩=some (.pointer (some ⟨b,0,none⟩)):=by rw [Lib.cell_of_heap hb1];rfl
  have c1:w1.cell? ⟨b,1,none⟩=some v:=by rw [Lib.cell_of_heap hb1];rfl
  have hown1:w1.ownsRow 0 5 1 v bs.length (Lib.byteCells bs):=ownsRow_keep h3 fun g hg=>k1.block g (ownsRow_lt h3 hg) fun e=>h4 (e ▸ hg)
  obtain ⟨v',w2,hrun,hown2,hgr,hsz,hvb⟩:=append_w w1 v bs s hown1 hl
  have hb2:w2.heap[b]? = some (.cells #[.pointer (some ⟨b,0,none⟩),v] 143 (0,0)):=(hgr.block b (Array.getElem?_eq_some_iff.1 hb1).1 fun e=>h4 e.symm).trans hb1
  have d1:w2.cell? ⟨b,1,none⟩=some v:=by rw [Lib.cell_of_heap hb2];rfl
  have f1:w2.frozen? ⟨b,1,none⟩=false:=Lib.frozen_of_heap hb2 1
  have hv1:∃ ao n' cap,v'=.slice ao n' cap:=by
    rcases hown2.2 with ⟨hv,_⟩ | ⟨g,cap,cur,hv,_⟩
    · exact ⟨_,_,_,hv⟩
    · exact ⟨_,_,_,hv⟩
  obtain ⟨ao,n',cap,rfl⟩:=hv1
  go_wp2_with (at_builtin;refine wpList_app rfl _ _ 34 9 rfl _ _ rfl rfl _ _ (hrun _) ?_)
  go_ret2
  have hb3:=heap_setCell_same w2 b 1 _ _ (.slice ao n' cap) hb2
  have kk:Kp w (w2.setCell ⟨b,1,none⟩ (.slice ao n' cap)) U:=by
    refine (k1.mono fun g q=>(h5 g).2 (.inl q)).trans (Kp.trans (U:=fun g=>v.ownBlock=some g∨g=b) (b:=w2) ⟨hgr.os,hgr.tape,hgr.output,hgr.size,fun g hg hn=>hgr.block g hg fun e=>hn (.inl e.symm),hsz⟩ (Kp.setCell hb2) fun g _ q=>.inr q) fun g _ q=>(h5 g).2 q.symm
  refine ⟨⟨_,rfl⟩,fun g=>g=b∨(Value.slice ao n' cap).ownBlock=some g,⟨_,_,hb3,.inr rfl, ?_, ?_,fun g=>Iff.rfl⟩,fun g hg=>?_,kk⟩
  · exact ownsRow_keep hown2 fun g hg=>heap_setCell_other w2 _ g _ fun e=>by
      have e:g=b:=e
      subst e
      rcases hvb with q | ⟨g2,q,q2⟩
      · exact h4 (q.symm.trans hg)
      · rw [hg] at q;cases q;have:=k1.size;omega
  · intro hg
    rcases hvb with q | ⟨g2,q,q2⟩
    · exact h4 (q.symm.trans hg)
    · rw [hg] at q;cases q;have:=k1.size;omega
  · rcases hg with rfl | hg
    · exact .inl ((h5 g).2 (.inl rfl))
    · rcases hvb with q | ⟨g2,q,q2⟩
      · exact .inl ((h5 g).2 (.inr (q.symm.trans hg)))
      · rw [hg] at q;cases q;exact .inr (Nat.le_trans k1.size q2)
theorem write_c (b:Nat) (bs:List UInt8) (s:ByteArray) (hl:bs.length + s.size≤1000000000):ThCall (bldT b) Tryz.prog b 100 s (some bs) (some (bs++s.data.toList)) :=
  ⟨by kernel_rfl,fun w U h=>(write_w b bs s w U h hl).mono fun e w' ⟨h1,U',h2,h3,k⟩=>⟨h1,U',h2,h3,k.os,k.tape,k.output,k.size,k.block,k.sizes⟩⟩
theorem kp_freeze {w : World} {g n : Nat} {cs : Array Value} {t : TypeId} {fr : Nat × Nat} (hg : w.heap[g]? = some (.cells cs t fr)) : Kp w (w.freeze ⟨g, 0, none⟩ n) (· = g) := by
  unfold World.freeze
  split
  · exact Kp.refl _ _
  · refine ⟨rfl,rfl,rfl,by simp,fun k _ hn=>?_,fun k c u f hk=>?_⟩
    · simp only [Array.getElem?_modify]
      rw [if_neg (fun e=>hn e.symm)]
    · simp only [Array.getElem?_modify]
      by_cases e:g=k
      · subst e
        rw [if_pos rfl,hk]
        obtain ⟨lo,hi⟩:=f
        exact ⟨c,_,rfl,rfl⟩
      · rw [if_neg e];exact ⟨c,f,hk,rfl⟩
theorem Kp.drew {w w':World} {U:Nat→Prop} (h:Kp w.drew w' U):Kp w w' U:=⟨h.os,h.tape,h.output,h.size,h.block,fun g cs t fr hg=>h.sizes g cs t fr hg⟩
set_option maxHeartbeats 2000000 in
theorem string_w (b:Nat) (l:List UInt8) (h0:l ≠ []) (w:World) (U:Nat→Prop) (h:bldAt b w l U) :
    Calls Tryz.prog 104 #[.pointer (some ⟨b,0,none⟩)] w fun e w'=>e=.returned (.string ⟨l.toArray⟩)∧Kp w w' U:=by
  obtain ⟨p,v,h1,h2,h3,h4,h5⟩:=h
  have hl0:l.length ≠ 0:=by simpa using h0
  obtain ⟨g,cap,cur,rfl,hg,hnc,hcm,hcs,htk⟩:∃ g cap cur,v=.slice (some ⟨g,0,none⟩) l.length cap∧w.heap[g]? = some (.cells cur 5 (0,0))∧l.length≤cap∧cap≤maxLen∧cur.size=cap * 1∧cur.toList.take (l.length * 1)=Lib.byteCells l:=by
    rcases h3.2 with ⟨_,q⟩ | ⟨g,cap,cur,hv,_,q⟩
    · exact absurd q hl0
    · exact ⟨g,cap,cur,hv,q⟩
  have c1:w.drew.cell? ⟨b,1,none⟩=some (.slice (some ⟨g,0,none⟩) l.length cap):=by
    have:w.drew.heap[b]? = some (.cells #[p,.slice (some ⟨g,0,none⟩) l.length cap] 143 (0,0)):=h1
    rw [Lib.cell_of_heap this];rfl
  have hSD:(Builtin.unsafeSliceData_ #[34] 216 #[.slice (some ⟨g,0,none⟩) l.length cap]).run Tryz.prog w.drew=.ok (.pointer (some ⟨g,0,none⟩)) w.drew:=Lib.run_unsafeSliceData_row w.drew _ _ _ _ _ (by omega)
  have hUS:(Builtin.unsafeString_ #[216,3] 9 #[.pointer (some ⟨g,0,none⟩),.int .i64 l.length]).run Tryz.prog w.drew=.ok (.string ⟨l.toArray⟩) (w.drew.freeze ⟨g,0,none⟩ l.length):=by
    refine Lib.run_unsafeString_row w.drew 216 3 9 5 Tryz.underlying216 extra156.cellsByte g cur.size (by have hg':w.drew.heap[g]? = some (.cells cur 5 (0,0)):=hg;simp [World.shape?,hg']) l h0 (by omega) (by unfold maxLen at hcm;omega) ?_
    intro j x hx
    rw [add_plain',cell_of_row w.drew g _ cur _ _ hg]
    have hx2:(Lib.byteCells l)[j]? = some (.int .u8 x.toNat):=by simp [Lib.byteCells,hx]
    rw [← htk,List.getElem?_take] at hx2
    split at hx2
    · simpa using hx2
    · cases hx2
  go_enter Tryz.func104,Tryz.ntmps104
  have kk:Kp w (w.drew.freeze ⟨g,0,none⟩ l.length) U:=((kp_freeze (w:=w.drew) (n:=l.length) hg).mono fun k q=>by rw [q];exact (h5 g).2 (.inr rfl)).drew
  have mixed:=lays240.mixed
  go_wp2
  go_region_o
  all_goals (go_wp2;go_ret;exact ⟨rfl,kk⟩)
theorem string_c (b:Nat) (l:List UInt8) (h0:l ≠ []):ThText (bldT b) Tryz.prog b 104 ⟨l.toArray⟩ (some l) none :=
  ⟨by kernel_rfl,fun w U h=>(string_w b l h0 w U h).mono fun e w' ⟨h1,k⟩=>⟨h1,U,fun g hg=>Nat.lt_of_lt_of_le ((bldT b).lt (k:=some l) h g hg) k.size,fun g hg=>.inl hg,k.os,k.tape,k.output,k.size,k.block,k.sizes⟩⟩
end Go.Proofs.YtcgekblpbheikaaGreatDoor
