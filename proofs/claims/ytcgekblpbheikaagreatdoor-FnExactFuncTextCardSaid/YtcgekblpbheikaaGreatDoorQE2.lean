/- The abstract machine: parts B0 B1 B2 B8 B9 C0 in one text. No condition. -/
import Derived.Orders
import Derived.Test.YtcgekblpbheikaaGreatDoorQE1
section
/- The abstract machine,part 10: append over abstract states;calls;each operation;a region. No condition. -/
namespace Go.Proofs.YtcgekblpbheikaaGreatDoor
set_option linter.unusedVariables false
set_option linter.unusedSimpArgs false

section
variable {P:Program} {x:Ctx} {N:Nat} {env:Env} {H:Heap} {φ:List (Nat × Nat)} {a:Act} {w:World}

theorem VS.less {X:Nat→Prop} {H H':Heap} (ho:∀ g,ownOf φ H' g→ownOf φ H g) {c:V} {v:Value} (h:VS w (owned X φ H) φ c v):VS w (owned X φ H') φ c v :=
  VS.keeps (fun b hb hn=>⟨rfl,fun h'=>hn (h'.imp (fun q=>q) (ho b))⟩) (Sizes.refl w) (Ext.refl φ) _ _ h

theorem Sim.rehome (h : Sim x N ⟨env, H⟩ φ a w) {id e : Nat} {es es' : List (List V)} {g o o' : Nat} {cs cs' : Array Value} {t : TypeId}
    (hid:H[id]? = some (.row e es)) (hφ:φ[id]? = some (g,o)) (hg:w.heap[g]? = some (.cells cs t (0,0))) (hs:cs'.size=cs.size) (hfit:o' + es'.length * e≤cs'.size)
    (hes:∀ (i:Nat) (l:List V),es'[i]? = some l→l.length=e∧∀ (j:Nat) (c:V),l[j]? = some c→c.one=true∧∃ y,cs'[o' + i * e + j]? = some y∧VS w (owned x.X φ H) φ c y) :
    Sim x N ⟨env,H.set id .dead++[.row e es']⟩ (φ++[(g,o')]) a (w.setRow g cs'):=by
  have hown:ownOf φ H g:=⟨id,e,es,o,hid,hφ⟩
  have hfr:Fr w (ownOf φ H) (w.setRow g cs'):=Fr.setRow hg hs hown
  have hl:id < H.length:=(List.getElem?_eq_some_iff.1 hid).1
  -- the live places of the new heap
  have get:∀ (k e1:Nat) (es1:List (List V)),(H.set id .dead++[Place.row e es'])[k]? = some (.row e1 es1)→(k < H.length∧k ≠ id∧H[k]? = some (.row e1 es1))∨(k=H.length∧e1=e∧es1=es'):=by
    intro k e1 es1 hk
    by_cases hkl:k < H.length
    · rw [List.getElem?_append_left (by simpa using hkl)] at hk
      by_cases hkid:k=id
      · subst hkid
        simp [hkl] at hk
      · rw [List.getElem?_set_ne (fun q=>hkid q.symm)] at hk
        exact .inl ⟨hkl,hkid,hk⟩
    · have hk':=(List.getElem?_eq_some_iff.1 hk).1
      simp at hk'
      obtain rfl:k=H.length:=by omega
      rw [List.getElem?_append_right (by simp)] at hk
      simp at hk
      exact .inr ⟨rfl,hk.1.symm,hk.2.symm⟩
  have getφ:∀ k,k < H.length→(φ++[(g,o')])[k]? = φ[k]?:=fun k hk=>by rw [List.getElem?_append_left (by rw [h.hs.len];exact hk)]
  have newφ:(φ++[(g,o')])[H.length]? = some (g,o'):=by rw [← h.hs.len];simp
  have hold':∀ k,ownOf (φ++[(g,o')]) (H.set id .dead++[Place.row e es']) k→ownOf φ H k:=by
    rintro k ⟨id1,e1,es1,o1,h1,h2⟩
    rcases get _ _ _ h1 with ⟨q1,q2,q3⟩ | ⟨rfl,rfl,rfl⟩
    · rw [getφ _ q1] at h2
      exact ⟨id1,e1,es1,o1,q3,h2⟩
    · rw [newφ] at h2
      cases h2
      exact hown
  have hk:Keeps w (owned x.X φ H) (w.setRow g cs') (owned x.X (φ++[(g,o')]) (H.set id .dead++[Place.row e es'])):=keepsX hfr (fun k _=>hold' k)
  refine h.to ⟨by simp [h.hs.len], ?_,fun k hk=>h.hs.disj k (hold' k hk), ?_⟩ hfr (fun k _=>hold' k) (Ext.append _ _) (by simp)
  · intro i j e1 es1 e2 es2 g1 o1 o2 hi hj hgi hgj
    rcases get _ _ _ hi with ⟨q1,q2,q3⟩ | ⟨rfl,rfl,rfl⟩ <;> rcases get _ _ _ hj with ⟨r1,r2,r3⟩ | ⟨rfl,rfl,rfl⟩
    · rw [getφ _ q1] at hgi
      rw [getφ _ r1] at hgj
      exact h.hs.inj i j _ _ _ _ g1 o1 o2 q3 r3 hgi hgj
    · rw [getφ _ q1] at hgi
      rw [newφ] at hgj
      cases hgj
      exact absurd (h.hs.inj i id _ _ _ _ g o1 o q3 hid hgi hφ) q2
    · rw [getφ _ r1] at hgj
      rw [newφ] at hgi
      cases hgi
      exact absurd (h.hs.inj j id _ _ _ _ g o2 o r3 hid hgj hφ) r2
    · rfl
  · intro k e1 es1 hk1
    rcases get _ _ _ hk1 with ⟨q1,q2,q3⟩ | ⟨rfl,rfl,rfl⟩
    · obtain ⟨g1,o1,cs1,t1,h1,h2,h3,h4⟩:=h.hs.live k e1 es1 q3
      have hne:g1 ≠ g:=by
        rintro rfl
        exact q2 (h.hs.inj k id e1 es1 e es g1 o1 o q3 hid h1 hφ)
      refine ⟨g1,o1,cs1,t1,by rw [getφ _ q1];exact h1,by rw [setRow_other w g g1 cs' hne];exact h2,h3,fun i l hi=>⟨(h4 i l hi).1,fun j c hj=>?_⟩⟩
      obtain ⟨ho,y,hy,hv⟩:=(h4 i l hi).2 j c hj
      exact ⟨ho,y,hy,VS.keeps hk hfr.sizes (Ext.append _ _) _ _ hv⟩
    · refine ⟨g,o',cs',t,newφ,setRow_heap w g cs cs' t _ hg,hfit,fun i l hi=>⟨(hes i l hi).1,fun j c hj=>?_⟩⟩
      obtain ⟨ho,y,hy,hv⟩:=(hes i l hi).2 j c hj
      exact ⟨ho,y,hy,VS.keeps hk hfr.sizes (Ext.append _ _) _ _ hv⟩

theorem appendD_gives (h : Sim x N ⟨env, H⟩ φ a w) (t ty : TypeId) {p q : V} {vp vq : Value} (hp : VS w (owned x.X φ H) φ p vp) (hq : VS w (owned x.X φ H) φ q vq)
    {t':TypeId} (htt:t=t'∨strT P t'=true) {k:V→Heap→Prop} (hk:appendD P t p q H k):Gives P x N env a w (Builtin.append_ #[t,t'] ty #[vp,vq]) k:=by
  unfold appendD at hk
  split at hk
  case h_2=>exact hk.elim
  rename_i et hti
  obtain ⟨i,u,z,hi,hu,hz,e⟩:=tinfo_spec hti
  obtain rfl:=tk_slice (u:=u) (by injection e;symm;assumption)
  split at hk
  case h_2=>exact hk.elim
  rename_i te hte
  obtain ⟨i',u',z',hi',hu',hz',rfl⟩:=tinfo_spec hte
  simp only at hk
  obtain ⟨⟨hpos,hzl⟩,hk⟩:=hk
  have hu2:P.underlying t'=some (.slice et)∨P.underlying t'=some .string:=by
    rcases htt with rfl | htt
    · exact .inl hu
    · right
      unfold strT at htt
      split at htt
      · rename_i e3
        obtain ⟨i3,u3,z3,hi3,hu3,hz3,e4⟩:=tinfo_spec e3
        obtain rfl:=tk_str (u:=u3) (by injection e4;symm;assumption)
        exact hu3
      · cases htt
  have hzs:z'.cells.size=i'.size:=by simpa using hzl
  obtain ⟨news,vals,hk,hne,hno,hnv,hsrc⟩:=elemsD_spec (P:=P) h hpos hq hk
  have hvl:vals.length=news.length * i'.size:=by rw [← VSs.length _ _ hnv,flatten_length hne]
  have hvone:∀ u∈vals,u.oneCell'=true:=by
    intro u hu
    obtain ⟨j,hj⟩:=List.getElem?_of_mem hu
    have hj':j < news.flatten.length:=by rw [VSs.length _ _ hnv];exact (List.getElem?_eq_some_iff.1 hj).1
    obtain ⟨i2,l,m,q1,q2,q3⟩:=flatten_elem hne (List.getElem?_eq_getElem hj')
    obtain ⟨v',r1,r2⟩:=VSs.get _ _ hnv j _ (List.getElem?_eq_getElem hj')
    rw [hj] at r1
    cases r1
    exact VS.one r2 (ones_get (hno l (List.mem_of_getElem? q1)) q2)
  split at hk
  · rename_i sid e1 off n hkk
    obtain ⟨rfl,hk⟩:=hk
    split at hk
    case h_2=>exact hk.elim
    rename_i e' es hid
    obtain ⟨rfl,hlen,hb,h47,hk⟩:=hk
    simp only [VS] at hp
    obtain ⟨g,o,A,cap,hφ,rfl,hcap,hA,hroom⟩:=hp
    obtain ⟨g',o',cs,t1,h1,h2,h3,h4⟩:=h.hs.live sid _ es hid
    rw [hφ] at h1
    obtain ⟨rfl,rfl⟩:=Prod.mk.inj (Option.some.inj h1)
    have hroom':o + (off + cap) * i'.size≤cs.size:=by
      obtain ⟨cs2,t2,fr2,r1,r2⟩:=hroom
      rw [h2] at r1
      cases r1
      exact r2
    have hmem:∀ l∈(es.drop off).take n++news,l.length=i'.size∧ones l=true:=by
      intro l hl
      rcases List.mem_append.1 hl with hl | hl
      · obtain ⟨i2,hi2⟩:=List.getElem?_of_mem hl
        rw [List.getElem?_take] at hi2
        split at hi2
        · rw [List.getElem?_drop] at hi2
          obtain ⟨q1,q2⟩:=h4 _ l hi2
          refine ⟨q1, ?_⟩
          unfold ones
          rw [List.all_eq_true]
          intro c hc
          obtain ⟨j,hj⟩:=List.getElem?_of_mem hc
          exact (q2 j c hj).1
        · cases hi2
      · exact ⟨hne l hl,hno l hl⟩
    have hn:((es.drop off).take n).length=n:=by simp;omega
    have hadd:(off + cap) * i'.size=off * i'.size + cap * i'.size:=Nat.add_mul _ _ _
    by_cases hin:n + news.length≤cap
    · -- there is room
      obtain ⟨cs',hcs',hrun,hget⟩:∃ cs':Array Value,cs'.size=cs.size ∧
          (Builtin.append_ #[t,t'] ty #[.slice (some A) n cap,vq]).run P w=.ok (.slice (some A) (n + news.length) cap) (w.setRow g cs') ∧
          ∀ m,cs'[m]? = if o + off * i'.size + n * i'.size≤m∧m < o + off * i'.size + n * i'.size + vals.length then vals[m - (o + off * i'.size + n * i'.size)]? else cs[m]?:=by
        by_cases hc0:cap=0
        · have:news=[]:=List.eq_nil_of_length_eq_zero (by omega)
          subst this
          have:vals=[]:=List.eq_nil_of_length_eq_zero (by simpa using hvl)
          subst this
          refine ⟨cs,rfl, ?_,fun m=>by simp;omega⟩
          rw [setRow_self w g cs t1 (0,0) h2]
          exact run_append_in0 hu hu2 hi' hsrc (some A) n cap hcap
        · have hA':=hA.resolve_left hc0
          subst hA'
          have hfit:o + off * i'.size + n * i'.size + vals.length≤cs.size:=by
            have:(n + news.length) * i'.size≤cap * i'.size:=Nat.mul_le_mul_right _ hin
            rw [Nat.add_mul] at this
            omega
          refine ⟨_, ?_,run_append_in hu hu2 hi' hsrc g (o + off * i'.size) n cap cs t1 h2 hvone hin hfit,fun m=>?_⟩
          · simp;omega
          · rw [List.getElem?_toArray]
            have hT:(cs.toList.take (o + off * i'.size + n * i'.size)).length=o + off * i'.size + n * i'.size:=by simp;omega
            by_cases hm1:m < o + off * i'.size + n * i'.size
            · rw [if_neg (by omega),List.append_assoc,List.getElem?_append_left (by omega),List.getElem?_take,if_pos hm1]
              simp
            · by_cases hm2:m < o + off * i'.size + n * i'.size + vals.length
              · rw [if_pos ⟨by omega,hm2⟩,List.append_assoc,List.getElem?_append_right (by omega),List.getElem?_append_left (by omega),hT]
              · rw [if_neg (by omega),List.getElem?_append_right (by rw [List.length_append];omega),List.getElem?_drop,List.length_append,hT]
                rw [show o + off * i'.size + n * i'.size + vals.length + (m - (o + off * i'.size + n * i'.size + vals.length))=m by omega]
                simp
      have hsim:=h.rehome (o':=o + off * i'.size) (es':=(es.drop off).take n++news) hid hφ h2 hcs' (by
        rw [List.length_append,hn,hcs',Nat.add_mul]
        have:(n + news.length) * i'.size≤cap * i'.size:=Nat.mul_le_mul_right _ hin
        rw [Nat.add_mul] at this
        omega) (by
        intro i2 l hl
        obtain ⟨q1,q2⟩:=hmem l (List.mem_of_getElem? hl)
        refine ⟨q1,fun j c hc=>⟨ones_get q2 hc, ?_⟩⟩
        have hj:j < i'.size:=by rw [← q1];exact (List.getElem?_eq_some_iff.1 hc).1
        by_cases hi2:i2 < n
        · rw [List.getElem?_append_left (by omega),List.getElem?_take,if_pos hi2,List.getElem?_drop] at hl
          obtain ⟨_,r2⟩:=h4 _ l hl
          obtain ⟨_,y,hy,hv⟩:=r2 j c hc
          refine ⟨y, ?_,hv⟩
          have:(i2 + 1) * i'.size≤n * i'.size:=Nat.mul_le_mul_right _ hi2
          rw [Nat.add_mul] at this
          rw [hget,if_neg (by omega),← hy]
          congr 1
          rw [Nat.add_mul]
          omega
        · rw [List.getElem?_append_right (by omega),hn] at hl
          have hflat:=elems_get hne hl hj
          rw [hc] at hflat
          obtain ⟨v,r1,r2⟩:=VSs.get _ _ hnv _ c hflat
          refine ⟨v, ?_,r2⟩
          have hjv:(i2 - n) * i'.size + j < vals.length:=(List.getElem?_eq_some_iff.1 r1).1
          have:i2 * i'.size=n * i'.size + (i2 - n) * i'.size:=by rw [← Nat.add_mul];congr 1;omega
          rw [hget,if_pos (by omega),← r1]
          congr 1
          omega)
      refine ⟨_,_,_,_,_,hrun,hk,hsim, ?_⟩
      simp only [VS]
      refine ⟨g,o + off * i'.size,A,cap,by rw [← h.hs.len];simp,rfl,hin,hA.imp (fun q=>q) (fun q=>by rw [q];simp), ?_⟩
      exact ⟨cs',t1,(0,0),setRow_heap w g cs cs' t1 _ h2,by rw [hcs'];simp;omega⟩
    · -- a new row
      have holds:∀ j,j < n * i'.size→∃ v,w.cell? (A.add j)=some v∧∃ c,((es.drop off).take n).flatten[j]? = some c∧VS w (owned x.X φ H) φ c v:=by
        intro j hj
        have hfl:((es.drop off).take n).flatten.length=n * i'.size:=by rw [flatten_length (fun l hl=>(hmem l (List.mem_append_left _ hl)).1),hn]
        have hj':j < ((es.drop off).take n).flatten.length:=by omega
        obtain ⟨i2,l,m,q1,q2,q3⟩:=flatten_elem (fun l hl=>(hmem l (List.mem_append_left _ hl)).1) (List.getElem?_eq_getElem hj')
        rw [List.getElem?_take] at q1
        split at q1
        · rw [List.getElem?_drop] at q1
          obtain ⟨_,r2⟩:=h4 _ l q1
          obtain ⟨_,y,hy,hv⟩:=r2 m _ q2
          have hc0:cap ≠ 0:=by
            rintro rfl
            have:n=0:=by omega
            subst this
            simp at hj
          refine ⟨y, ?_,_,List.getElem?_eq_getElem hj',hv⟩
          rw [hA.resolve_left hc0,add_plain',cell_of_row w g _ cs t1 _ h2,← hy,q3]
          congr 1
          rw [Nat.add_mul]
          omega
        · cases q1
      obtain ⟨olds,hol,hov⟩:=exists_list (n * i'.size) _ holds
      have hof:∀ W:World,W.heap=w.heap→(Builtin.firstCells i'.size n (.slice (some A) n cap)).run P W=.ok olds.toArray W:=fun W hW =>
        run_firstCells_some W i'.size n A n cap olds hol fun j v hv=>by
          have:=(hov j v hv).1
          unfold World.cell? at this ⊢
          rw [hW]
          exact this
      have hrun:=run_append_up (ty:=ty) hu hu2 hi' hz' hsrc (some A) n cap olds hof (by omega) h47 hb
      have hsim0:=(h.kill sid).drawn (w.drawn + 1)
      have hge:=grownCap_ge w (n + news.length) cap et
      have hnew:=newRow_gives hsim0 et (e:=i'.size) (n:=n + news.length) (cap:=grownCap w (n + news.length) cap et) (es:=(es.drop off).take n++news)
        (fun l hl=>(hmem l hl).1) (fun l hl=>(hmem l hl).2) (cs:=olds.toArray++vals.toArray++Builtin.zeroCells z'.cells (grownCap w (n + news.length) cap et - (n + news.length)))
        (by rw [List.length_append,hn]) hge
        (by
          rw [Array.size_append,Array.size_append,size_zeroCells,hzs]
          simp only [List.size_toArray]
          rw [hol,hvl,← Nat.add_mul,← Nat.add_mul]
          exact Nat.mul_le_mul_right _ (by omega))
        (fun j c hc=>by
          rw [List.flatten_append] at hc
          have hfl:((es.drop off).take n).flatten.length=n * i'.size:=by rw [flatten_length (fun l hl=>(hmem l (List.mem_append_left _ hl)).1),hn]
          have less:∀ {c:V} {v:Value},VS w (owned x.X φ H) φ c v→VS { w with drawn:=w.drawn + 1 } (owned x.X φ (H.set sid .dead)) φ c v:=fun hv =>
            VS.keeps (w:=w) (w':={ w with drawn:=w.drawn + 1 }) (Keeps.heap rfl) (Sizes.heap rfl) (Ext.refl _) _ _ (VS.less (fun g hg=>(ownOf_kill hg).1) hv)
          by_cases hj:j < n * i'.size
          · rw [List.getElem?_append_left (by omega)] at hc
            have hjo:j < olds.length:=by omega
            refine ⟨olds[j], ?_, ?_⟩
            · rw [Array.getElem?_append_left (by simp;omega),Array.getElem?_append_left (by simpa using hjo)]
              simp [hjo]
            · obtain ⟨_,c',hc',hv⟩:=hov j _ (List.getElem?_eq_getElem hjo)
              rw [hc] at hc'
              cases hc'
              exact less hv
          · rw [List.getElem?_append_right (by omega),hfl] at hc
            obtain ⟨v,r1,r2⟩:=VSs.get _ _ hnv _ c hc
            have hjv:=(List.getElem?_eq_some_iff.1 r1).1
            refine ⟨v, ?_,less r2⟩
            rw [Array.getElem?_append_left (by simp;omega),Array.getElem?_append_right (by simp;omega)]
            simp only [List.size_toArray,hol]
            simpa using r1)
        (k:=k) (by simpa using hk)
      obtain ⟨k1,k2,k3⟩:=hnew
      exact ⟨_,_,_,_,_,hrun,k1,k2,k3⟩
  · obtain ⟨⟨hb,h47⟩,hk0,hk1⟩:=hk
    simp only [VS,DS] at hp
    subst hp
    by_cases hnil:news=[]
    · have hv0:vals=[]:=List.eq_nil_of_length_eq_zero (by rw [hvl,hnil];simp)
      subst hv0
      have hsrc0:Src P w i'.size vq 0 []:=by rw [hnil] at hsrc;exact hsrc
      exact Gives.same h (run_append_in0 hu hu2 hi' hsrc0 none 0 0 (Nat.le_refl _)) (hk0 hnil) (by simp [VS,DS])
    · have hpos':0 < news.length:=List.length_pos_iff.2 hnil
      have hrun:=run_append_up (ty:=ty) hu hu2 hi' hz' hsrc none 0 0 [] (fun W _=>by simp [Builtin.firstCells]) (by omega) (by omega) (by simpa using hb)
      have hsim0:=h.drawn (w.drawn + 1)
      have hge:=grownCap_ge w (0 + news.length) 0 et
      have hnew:=newRow_gives hsim0 et (e:=i'.size) (n:=news.length) (cap:=grownCap w (0 + news.length) 0 et) (es:=news) hne hno
        (cs:=(#[]:Array Value)++vals.toArray++Builtin.zeroCells z'.cells (grownCap w (0 + news.length) 0 et - (0 + news.length))) rfl (by omega)
        (by
          rw [Array.size_append,Array.size_append,size_zeroCells,hzs]
          simp only [List.size_toArray,Array.size_empty]
          rw [hvl,Nat.zero_add,List.length_nil,Nat.zero_add,← Nat.add_mul]
          exact Nat.mul_le_mul_right _ (by omega))
        (fun j c hc=>by
          obtain ⟨v,r1,r2⟩:=VSs.get _ _ hnv _ c hc
          have hjv:=(List.getElem?_eq_some_iff.1 r1).1
          refine ⟨v, ?_,VS.keeps (w:=w) (w':={ w with drawn:=w.drawn + 1 }) (Keeps.heap rfl) (Sizes.heap rfl) (Ext.refl _) _ _ r2⟩
          rw [Array.getElem?_append_left (by simp;omega)]
          simpa using r1) (hk1 hnil)
      obtain ⟨k1,k2,k3⟩:=hnew
      refine ⟨_,_,_,_,_,hrun,k1,k2, ?_⟩
      simpa using k3
  · exact hk.elim

theorem run_copy {t ty e:TypeId} {i:TypeInfo} (ht:P.underlying t=some (.slice e)) (hi:P.info? e=some i) {v:Value} {m:Nat} {vals:List Value} (hs:Src P w i.size v m vals)
    (g o n cap:Nat) (cs:Array Value) (t1:TypeId) (hg:w.heap[g]? = some (.cells cs t1 (0,0))) (h1:∀ u∈vals,u.oneCell'=true)
    (hfit:o + (min m n) * i.size≤cs.size) :
    (Builtin.copy_ #[t,t] ty #[.slice (some ⟨g,o,none⟩) n cap,v]).run P w =
      .ok (.int .i64 (min m n:Nat)) (w.setRow g (cs.toList.take o++vals.take (min m n * i.size)++cs.toList.drop (o + (vals.take (min m n * i.size)).length)).toArray):=by
  have hl:(vals.take (min m n * i.size)).length=min m n * i.size:=by rw [List.length_take,hs.size];exact Nat.min_eq_left (Nat.mul_le_mul_right _ (Nat.min_le_left _ _))
  have hst:=run_storeCells_at P g o t1 (vals.take (min m n * i.size)) 0 cs w hg (by rw [hl];simpa using hfit) (fun u hu=>h1 u (List.mem_of_mem_take hu))
  simp only [Nat.add_zero] at hst
  have hp:=hs.part (min m n) (Nat.min_le_left _ _) w rfl
  have hm:Nat.min m n=min m n:=rfl
  simp [Builtin.copy_,run_underlying ht,sizeOf,typeInfo,hi,hs.len w,hm,hp,hst,goInt]
theorem run_copy0 {t ty e:TypeId} {i:TypeInfo} (ht:P.underlying t=some (.slice e)) (hi:P.info? e=some i) {v:Value} {m:Nat} {vals:List Value} (hs:Src P w i.size v m vals)
    (A:Option Addr) (cap:Nat):(Builtin.copy_ #[t,t] ty #[.slice A 0 cap,v]).run P w=.ok (.int .i64 0) w:=by
  have hp:=hs.part 0 (Nat.zero_le _) w rfl
  have hm:Nat.min m 0=0:=Nat.min_zero m
  cases A <;> simp [Builtin.copy_,run_underlying ht,sizeOf,typeInfo,hi,hs.len w,hm,hp,goInt,storeCells]

theorem copyD_gives (h : Sim x N ⟨env, H⟩ φ a w) (t ty : TypeId) {p q : V} {vp vq : Value} (hp : VS w (owned x.X φ H) φ p vp) (hq : VS w (owned x.X φ H) φ q vq)
    {k:V→Heap→Prop} (hk:copyD P t p q H k):Gives P x N env a w (Builtin.copy_ #[t,t] ty #[vp,vq]) k:=by
  unfold copyD at hk
  split at hk
  case h_2=>exact hk.elim
  rename_i et hti
  obtain ⟨i,u,z,hi,hu,hz,e⟩:=tinfo_spec hti
  obtain rfl:=tk_slice (u:=u) (by injection e;symm;assumption)
  split at hk
  case h_2=>exact hk.elim
  rename_i te hte
  obtain ⟨i',u',z',hi',hu',hz',rfl⟩:=tinfo_spec hte
  simp only at hk
  obtain ⟨hpos,hk⟩:=hk
  obtain ⟨news,vals,hk,hne,hno,hnv,hsrc⟩:=elemsD_spec (P:=P) h hpos hq hk
  have hvl:vals.length=news.length * i'.size:=by rw [← VSs.length _ _ hnv,flatten_length hne]
  have hvone:∀ u∈vals,u.oneCell'=true:=by
    intro u hu
    obtain ⟨j,hj⟩:=List.getElem?_of_mem hu
    have hj':j < news.flatten.length:=by rw [VSs.length _ _ hnv];exact (List.getElem?_eq_some_iff.1 hj).1
    obtain ⟨i2,l,m,q1,q2,q3⟩:=flatten_elem hne (List.getElem?_eq_getElem hj')
    obtain ⟨v',r1,r2⟩:=VSs.get _ _ hnv j _ (List.getElem?_eq_getElem hj')
    rw [hj] at r1
    cases r1
    exact VS.one r2 (ones_get (hno l (List.mem_of_getElem? q1)) q2)
  split at hk
  · rename_i sid e1 off n hkk
    obtain ⟨rfl,hk⟩:=hk
    split at hk
    case h_2=>exact hk.elim
    rename_i e' es hid
    obtain ⟨rfl,hlen,hk⟩:=hk
    simp only [VS] at hp
    obtain ⟨g,o,A,cap,hφ,rfl,hcap,hA,hroom⟩:=hp
    obtain ⟨g',o',cs,t1,h1,h2,h3,h4⟩:=h.hs.live sid _ es hid
    rw [hφ] at h1
    obtain ⟨rfl,rfl⟩:=Prod.mk.inj (Option.some.inj h1)
    by_cases hn0:n=0
    · subst hn0
      have hH:H.set sid (.row i'.size (es.take off++news.take 0++es.drop (off + min news.length 0)))=H:=by
        simp only [Nat.min_zero,List.take_zero,List.append_nil,Nat.add_zero,List.take_append_drop]
        have hl:=(List.getElem?_eq_some_iff.1 hid)
        obtain ⟨hl,he⟩:=hl
        rw [← he]
        exact List.set_getElem_self hl
      rw [hH] at hk
      simp only [Nat.min_zero] at hk
      exact Gives.same h (run_copy0 hu hi' hsrc (some A) cap) hk (by simp [VS,DS])
    · have hA':=hA.resolve_left (by omega)
      subst hA'
      have hmn:min news.length n≤n:=Nat.min_le_right _ _
      have hmm:min news.length n≤news.length:=Nat.min_le_left _ _
      have hle1:(off + n) * i'.size≤es.length * i'.size:=Nat.mul_le_mul_right _ hlen
      have hle2:min news.length n * i'.size≤n * i'.size:=Nat.mul_le_mul_right _ hmn
      rw [Nat.add_mul] at hle1
      have hfit:o + off * i'.size + min news.length n * i'.size≤cs.size:=by omega
      have hrun:=run_copy (ty:=ty) hu hi' hsrc g (o + off * i'.size) n cap cs t1 h2 hvone hfit
      have hml:(vals.take (min news.length n * i'.size)).length=min news.length n * i'.size:=by rw [List.length_take,hvl];exact Nat.min_eq_left (Nat.mul_le_mul_right _ hmm)
      have hnl:(news.take n).length=min news.length n:=by rw [List.length_take,Nat.min_comm]
      have hsim:=h.setRow (es':=es.take off++news.take n++es.drop (off + min news.length n)) hid hφ h2
        (cs':=(cs.toList.take (o + off * i'.size)++vals.take (min news.length n * i'.size)++cs.toList.drop (o + off * i'.size + (vals.take (min news.length n * i'.size)).length)).toArray)
        (by simp only [List.size_toArray,List.length_append,List.length_take,List.length_drop,Array.length_toList,hvl];rw [Nat.min_eq_left (a:=min news.length n * i'.size) (Nat.mul_le_mul_right _ hmm)];omega)
        (by
          have:(es.take off++news.take n++es.drop (off + min news.length n)).length=es.length:=by simp only [List.length_append,List.length_take,List.length_drop];omega
          rw [this]
          simp only [List.size_toArray,List.length_append,List.length_take,List.length_drop,Array.length_toList,hvl]
          rw [Nat.min_eq_left (a:=min news.length n * i'.size) (Nat.mul_le_mul_right _ hmm)]
          omega)
        (by
          intro i2 l hl
          have hT:(es.take off).length=off:=by rw [List.length_take];omega
          have hTc:(cs.toList.take (o + off * i'.size)).length=o + off * i'.size:=by rw [List.length_take,Array.length_toList];omega
          by_cases c1:i2 < off
          · rw [List.append_assoc,List.getElem?_append_left (by omega),List.getElem?_take,if_pos c1] at hl
            obtain ⟨q1,q2⟩:=h4 i2 l hl
            refine ⟨q1,fun j c hj=>?_⟩
            obtain ⟨r1,y,r2,r3⟩:=q2 j c hj
            have hj':j < i'.size:=by rw [← q1];exact (List.getElem?_eq_some_iff.1 hj).1
            have:(i2 + 1) * i'.size≤off * i'.size:=Nat.mul_le_mul_right _ c1
            rw [Nat.add_mul] at this
            refine ⟨r1,y, ?_,r3⟩
            rw [List.getElem?_toArray,List.append_assoc,List.getElem?_append_left (by omega),List.getElem?_take,if_pos (by omega),Array.getElem?_toList]
            exact r2
          · by_cases c2:i2 < off + min news.length n
            · rw [List.append_assoc,List.getElem?_append_right (by omega),hT,List.getElem?_append_left (by omega),List.getElem?_take,if_pos (by omega)] at hl
              have q1:=hne l (List.mem_of_getElem? hl)
              refine ⟨q1,fun j c hj=>⟨ones_get (hno l (List.mem_of_getElem? hl)) hj, ?_⟩⟩
              have hj':j < i'.size:=by rw [← q1];exact (List.getElem?_eq_some_iff.1 hj).1
              have hflat:=elems_get hne hl hj'
              rw [hj] at hflat
              obtain ⟨v,r1,r2⟩:=VSs.get _ _ hnv _ c hflat
              refine ⟨v, ?_,r2⟩
              have:(i2 - off + 1) * i'.size≤min news.length n * i'.size:=Nat.mul_le_mul_right _ (by omega)
              rw [Nat.add_mul] at this
              have e1:i2 * i'.size=off * i'.size + (i2 - off) * i'.size:=by rw [← Nat.add_mul];congr 1;omega
              rw [List.getElem?_toArray,List.append_assoc,List.getElem?_append_right (by omega),hTc,List.getElem?_append_left (by omega),List.getElem?_take,if_pos (by omega),← r1]
              congr 1
              omega
            · rw [List.getElem?_append_right (by rw [List.length_append];omega),List.length_append,hT,hnl,List.getElem?_drop,show off + min news.length n + (i2 - (off + min news.length n))=i2 by omega] at hl
              obtain ⟨q1,q2⟩:=h4 i2 l hl
              refine ⟨q1,fun j c hj=>?_⟩
              obtain ⟨r1,y,r2,r3⟩:=q2 j c hj
              have:(off + min news.length n) * i'.size≤i2 * i'.size:=Nat.mul_le_mul_right _ (by omega)
              rw [Nat.add_mul] at this
              refine ⟨r1,y, ?_,r3⟩
              rw [List.getElem?_toArray,List.getElem?_append_right (by rw [List.length_append];omega),List.length_append,hTc,hml,List.getElem?_drop,Array.getElem?_toList,← r2]
              congr 1
              omega)
      exact ⟨_,_,_,_,_,hrun,hk,hsim,by simp [VS,DS]⟩
  · simp only [VS,DS] at hp
    subst hp
    exact Gives.same h (run_copy0 hu hi' hsrc none 0) hk (by simp [VS,DS])
  · exact hk.elim
end
end Go.Proofs.YtcgekblpbheikaaGreatDoor
end

section
/- The abstract machine,part 11: each operation,a region in the order of its text,the code. No condition. -/
namespace Go.Proofs.YtcgekblpbheikaaGreatDoor
set_option linter.unusedVariables false
set_option linter.unusedSimpArgs false

section
variable {P:Program} {x:Ctx} {N:Nat} {env:Env} {H:Heap} {φ:List (Nat × Nat)} {a:Act} {w:World}

theorem run_callFunc {f:FuncId} (he:enters P f=true) (args:Array Value):(callFunc f args).run P w=.ok (.enter f args) w:=by
  unfold enters at he
  cases hf:P.funcs[f]? with
  | none=>rw [hf] at he;simp at he
  | some fn =>
    rw [hf] at he
    simp only [Bool.and_eq_true,Bool.not_eq_true'] at he
    have hb:fn.body.isNone=false:=by cases hq:fn.body <;> simp_all
    simp only [callFunc,Sem.run_bind,run_program,Result.andThen_ok,hf]
    rw [he.1,hb]
    rfl

def Nexts (P:Program) (x:Ctx) (N:Nat) (env:Env) (a:Act) (o:Oper) (k:V→Heap→Prop) (next:Act→World→Prop):Prop :=
  ∀ v c H' φ' w',k c H'→Sim x N ⟨env,H'⟩ φ' a w'→VS w' (owned x.X φ' H') φ' c v→next (a.put o.dst v) w'

theorem Gives.wp {o:Oper} {s:Sem Value} {k:V→Heap→Prop} {next:Act→World→Prop} {Q:Exit→Act→World→Prop} (hs:execOp a.eval o=(do pure (.value (← s)):Sem Next))
    (h:Gives P x N env a w s k) (hn:Nexts P x N env a o k next):o.wp P a w next Q:=by
  obtain ⟨v,w',c,H',φ',hr,hk,hsim,hv⟩:=h
  unfold Oper.wp
  rw [hs,Sem.run_bind,hr]
  exact hn v c H' φ' w' hk hsim hv

theorem call_wp {o:Oper} {g:FuncId} {vs:List V} {args:Array Value} {k:V→Heap→Prop} {next:Act→World→Prop} {Q:Exit→Act→World→Prop}
    (h:Sim x N ⟨env,H⟩ φ a w) (hr:(execOp a.eval o).run P w=.ok (.enter g args) w) (hv:VSs w (owned x.X φ H) φ vs args.toList) (hc:CallsD P g vs H k)
    (hn:Nexts P x N env a o k next):o.wp P a w next Q:=by
  unfold Oper.wp
  rw [hr]
  refine (hc.2 x.X w φ args h.lo h.hs hv).mono ?_
  rintro e w' ⟨v,r,φ',H',rfl,hq,hs',hv',hfr,hext,hlen,hold⟩
  exact hn v r H' φ' w' hq (h.to hs' hfr hold hext hlen) hv'

theorem op_wp {o : Oper} {k : V → Heap → Prop} {next : Act → World → Prop} {Q : Exit → Act → World → Prop} {Γ : Table} (hΓ : Good P Γ) (h : Sim x N ⟨env, H⟩ φ a w) (hk : opD P Γ env H o.op k) (hn : Nexts P x N env a o k next) : o.wp P a w next Q := by
  have pure_:∀ {s:Sem Value} {k1:V→Prop},execOp a.eval o=(do pure (.value (← s)):Sem Next)→Gives P x N env a w s (fun v H'=>k1 v∧H'=H)→(∀ v,k1 v→k v H)→o.wp P a w next Q:=by
    intro s k1 hs hg h1
    exact Gives.wp hs hg fun v c H' φ' w' hk2=>by
      obtain ⟨hk3,rfl⟩:=hk2
      exact hn v c _ φ' w' (h1 c hk3)
  obtain ⟨dst,op,type,pos,after,guard⟩:=o
  cases op <;> simp only [opD] at hk
  case move y =>
    unfold Oper.wp
    exact hn _ _ H φ w hk h (ev_spec h y)
  case assign y =>
    unfold Oper.wp
    exact hn _ _ H φ w hk h (ev_spec h y)
  case pick c p q =>
    obtain ⟨v,w',c',H',φ',hr,⟨hk,rfl⟩,hs,hv⟩:=pick_gives (P:=P) h (ev_spec h c) (ev_spec h p) (ev_spec h q) hk
    unfold Oper.wp
    have hr':(execOp a.eval ⟨dst,.pick c p q,type,pos,after,guard⟩).run P w=.ok (.value v) w':=by
      simp only [execOp]
      simp only [Sem.run_bind] at hr ⊢
      cases hq2:(asBool (a.eval c)).run P w with
      | ok b w1 =>
        rw [hq2] at hr
        simp only [Result.andThen_ok] at hr ⊢
        cases hr
        rfl
      | halt h1 w1=>rw [hq2] at hr;cases hr
    rw [hr']
    exact hn v c' _ φ' w' hk hs hv
  case alloc t=>exact Gives.wp (by simp only [execOp]) (allocD_gives h t hk) hn
  case box t y=>exact Gives.wp (by simp only [execOp]) (boxD_gives h t (ev_spec h y) hk) hn
  case build t parts =>
    refine pure_ (s:=Instr.build t (parts.map fun (i,x)=>(i,a.eval x))) (by simp only [execOp]) ?_ (fun v hv=>hv)
    have:=buildD_gives (P:=P) h t parts.toList hk
    have e:(parts.map fun (i,x)=>(i,a.eval x))=(parts.toList.map fun p=>(p.1,a.eval p.2)).toArray:=by
      apply Array.ext';simp
    rw [e]
    exact this
  case buildSlice t len parts =>
    have:=buildSliceD_gives (P:=P) h t len parts.toList hk
    have e:(parts.map fun (i,x)=>(i,a.eval x))=(parts.toList.map fun p=>(p.1,a.eval p.2)).toArray:=by
      apply Array.ext';simp
    rw [← e] at this
    exact Gives.wp (by simp only [execOp]) this hn
  case load t y=>exact pure_ (by simp only [execOp]) (load_gives h (ev_spec h y) hk) (fun v hv=>hv)
  case store t p y =>
    obtain ⟨w',H',hr,hk,hs⟩:=storeD_gives (P:=P) h t (ev_spec h p) (ev_spec h y) hk
    unfold Oper.wp
    have hr':(execOp a.eval ⟨dst,.store t p y,type,pos,after,guard⟩).run P w=.ok .skip w':=by
      simp only [execOp,Sem.run_bind,hr]
      rfl
    rw [hr']
    exact hn Go.undef _ H' φ w' hk hs (by simp [VS,VSs,Go.undef])
  case nilCheck y =>
    obtain ⟨hk,hv⟩:=nilCheck_gives h (ev_spec h y) hk
    unfold Oper.wp
    have hr':(execOp a.eval ⟨dst,.nilCheck y,type,pos,after,guard⟩).run P w=.ok (.value (a.eval y)) w:=by
      simp only [execOp]
      rcases hv with ⟨ad,e⟩ | ⟨f,cs,e⟩ <;> rw [e] <;> rfl
    rw [hr']
    exact hn _ _ H φ w hk h (ev_spec h y)
  case binOp op t p q t'=>exact pure_ (by simp only [execOp]) (binD_gives h op t p q (ev_spec h p) (ev_spec h q) hk) (fun v hv=>hv)
  case unOp op t p=>exact pure_ (by simp only [execOp]) (unD_gives h op (ev_spec h p) hk) (fun v hv=>hv)
  case convert s d p=>exact Gives.wp (by simp only [execOp]) (convH_gives h s d (ev_spec h p) hk) hn
  case makeFunc fn first captured =>
    cases fn with
    | func f =>
      simp only [opD] at hk
      obtain ⟨hf,hk⟩:=hk
      unfold Oper.wp
      have hf0:first=#[]:=Array.eq_empty_of_size_eq_zero hf
      have hr':(execOp a.eval ⟨dst,.makeFunc (.func f) first captured,type,pos,after,guard⟩).run P w=.ok (.value (.func (.func f) #[] (captured.map a.eval))) w:=by
        subst hf0
        simp [execOp,Instr.makeFunc]
      rw [hr']
      refine hn _ _ H φ w hk h ?_
      simp only [VS]
      exact ⟨_,rfl,by simpa using evs_spec h captured.toList⟩
    | _=>simp only [opD] at hk
  case makeSlice t l c=>exact Gives.wp (by simp only [execOp]) (makeSliceD_gives h t (ev_spec h l) (ev_spec h c) hk) hn
  case slice t y lo hi mx =>
    cases mx with
    | none=>exact pure_ (by simp only [execOp];rfl) (sliceD_gives h t (ev_spec h y) lo hi hk) (fun v hv=>hv)
    | some m =>
      unfold sliceD at hk
      split at hk
      · rename_i hq;simp at hq
      · rename_i hq;simp at hq
      · exact hk.elim
  case fieldAddr s y f=>exact pure_ (by simp only [execOp]) (fieldAddrD_gives h s (ev_spec h y) f hk) (fun v hv=>hv)
  case field s y f=>exact pure_ (by simp only [execOp]) (fieldD_gives h s (ev_spec h y) f hk) (fun v hv=>hv)
  case indexAddr t y i=>exact pure_ (by simp only [execOp]) (indexAddrD_gives h t (ev_spec h y) (ev_spec h i) hk) (fun v hv=>hv)
  case index t y i=>exact pure_ (by simp only [execOp]) (indexD_gives h t (ev_spec h y) (ev_spec h i) hk) (fun v hv=>hv)
  case extract t i=>exact pure_ (by simp only [execOp]) (extractD_gives h (ev_spec h t) i hk) (fun v hv=>hv)
  case call c =>
    obtain ⟨callee,args,argTypes⟩:=c
    unfold callD at hk
    cases callee with
    | value f =>
      simp only at hk
      have hargs:VSs w (owned x.X φ H) φ (args.toList.map (ev env)) (args.map a.eval).toList:=by simpa using evs_spec h args.toList
      have hf:=ev_spec h f
      split at hk
      · rename_i g n cap hq
        rw [hq] at hf
        simp only [VS,DS] at hf
        obtain ⟨cs,he,hsz,hcs⟩:=hf
        have hk:=goD_calls hΓ hk
        refine call_wp (args:=args.map a.eval++cs) h ?_ ?_ hk hn
        · simp [execOp,resolve,Deferred.ofValue,he,invoke]
          exact run_callFunc hk.1 _
        · rw [Array.toList_append]
          refine VSs.append hargs (VSs_of _ _ (by simp [upto_length,hsz]) fun j c v hc hv=>?_)
          rw [upto_get] at hc
          split at hc
          · cases hc
            obtain ⟨u,hu,hd⟩:=hcs j (by assumption)
            rw [Array.getElem?_toList,hu] at hv
            cases hv
            simpa [VS] using hd
          · cases hc
      · rename_i g l hq
        rw [hq] at hf
        simp only [VS] at hf
        obtain ⟨cs,he,hcs⟩:=hf
        have hk:=goD_calls hΓ hk
        refine call_wp (args:=args.map a.eval++cs) h ?_ ?_ hk hn
        · simp [execOp,resolve,Deferred.ofValue,he,invoke]
          exact run_callFunc hk.1 _
        · rw [Array.toList_append]
          exact VSs.append hargs hcs
      · exact hk.elim
    | invoke r m=>exact hk.elim
    | builtin b =>
      cases b <;> simp only at hk <;> try exact hk.elim
      case len =>
        split at hk
        · rename_i y t hy ht
          have ha:args=#[y]:=by apply Array.ext';simpa using hy
          have ht':argTypes=#[t]:=by apply Array.ext';simpa using ht
          subst ha
          subst ht'
          refine pure_ (s:=Builtin.len_ #[t] type #[a.eval y]) ?_ (lenD_gives h t type (ev_spec h y) hk) (fun v hv=>hv)
          simp [execOp,resolve,invoke,builtin]
        · exact hk.elim
      case append =>
        split at hk
        · rename_i s y t t' hy ht
          have ha:args=#[s,y]:=by apply Array.ext';simpa using hy
          have ht':argTypes=#[t,t']:=by apply Array.ext';simpa using ht
          subst ha
          subst ht'
          obtain ⟨htt,hk⟩:=hk
          refine Gives.wp (s:=Builtin.append_ #[t,t'] type #[a.eval s,a.eval y]) ?_ (appendD_gives h t type (ev_spec h s) (ev_spec h y) htt hk) hn
          simp [execOp,resolve,invoke,builtin]
        · exact hk.elim
      case copy =>
        split at hk
        · rename_i s y t t' hy ht
          have ha:args=#[s,y]:=by apply Array.ext';simpa using hy
          have ht':argTypes=#[t,t']:=by apply Array.ext';simpa using ht
          subst ha
          subst ht'
          obtain ⟨rfl,hk⟩:=hk
          refine Gives.wp (s:=Builtin.copy_ #[t,t] type #[a.eval s,a.eval y]) ?_ (copyD_gives h t type (ev_spec h s) (ev_spec h y) hk) hn
          simp [execOp,resolve,invoke,builtin]
        · exact hk.elim
  all_goals exact hk.elim
end
end Go.Proofs.YtcgekblpbheikaaGreatDoor
end

section
/- The abstract machine,part 12: a region in the order of its text,the code,a call's begin and end. No condition. -/
namespace Go.Proofs.YtcgekblpbheikaaGreatDoor
set_option linter.unusedVariables false
set_option linter.unusedSimpArgs false

section
variable {P:Program} {x:Ctx} {N:Nat} {env:Env} {H:Heap} {φ:List (Nat × Nat)} {a:Act} {w:World}

theorem Sim.putO {env:Env} {H:Heap} {φ:List (Nat × Nat)} {a:Act} {w:World} (h:Sim x N ⟨env,H⟩ φ a w) {t:Option Nat} (ht:(match t with | some t=>decide (t < N) | none=>true)=true) {c:V} {v:Value}
    (hv:VS w (owned x.X φ H) φ c v):Sim x N ⟨updO env t c,H⟩ φ (a.put t v) w:=by
  cases t with
  | none=>exact h
  | some t=>exact h.put (by simpa using ht) hv

theorem slot_bool {env:Env} (h:Sim x N ⟨env,H⟩ φ a w) {t:Nat} {b:Bool} (he:env t=.d (.bool b)):a.tmps[t]? = some (.bool b):=by
  have:=h.env t
  simp only [he,VS,DS] at this
  rw [Array.getD_eq_getD_getElem?] at this
  cases hq:a.tmps[t]? with
  | none=>rw [hq] at this;simp [Go.undef] at this
  | some v=>rw [hq] at this;simp at this;rw [this]
theorem slot_tup {env:Env} (h:Sim x N ⟨env,H⟩ φ a w) {t:Nat} (he:env t=.tup []):a.tmps[t]? = none∨a.tmps[t]? = some (.tuple #[]):=by
  have:=h.env t
  simp only [he,VS,VSs] at this
  obtain ⟨cs,h1,h2⟩:=this
  have:cs=#[]:=by apply Array.ext';simpa using h2
  subst this
  rw [Array.getD_eq_getD_getElem?] at h1
  cases hq:a.tmps[t]? with
  | none=>exact .inl rfl
  | some v=>rw [hq] at h1;simp at h1;rw [h1];exact .inr rfl

inductive Idx (all:Array Oper):List Nat→List Oper→Prop
  | nil:Idx all [] []
  | cons {i:Nat} {o:Oper} {is:List Nat} {os:List Oper} (h:all[i]? = some o) (t:Idx all is os):Idx all (i :: is) (o :: os)

theorem dsts_spec:∀ (l:List Oper),dstsOf (stripOps l)=l.map (·.dst)
  | []=>rfl
  | o :: l=>by simp [dstsOf,stripOps,dsts_spec l]

theorem opsD_wp {Γ : Table} (hΓ : Good P Γ) {all : Array Oper} {k : Env → Heap → Prop} {Q : Exit → Act → World → Prop} : ∀ (os : List Oper) (is : List Nat) (env : Env) (H : Heap) (φ : List (Nat × Nat)) (a : Act) (w : World),
    Idx all is os→os.all (opOk N)=true→Sim x N ⟨env,H⟩ φ a w→opsD P Γ (all.toList.map (·.dst)) (stripOps os) env H k →
    (∀ env H φ a w,k env H→Sim x N ⟨env,H⟩ φ a w→Q .normal a w)→wpOps P all Q is a w
  | [],is,env,H,φ,a,w,hi,_,h,hk,hq=>by
    cases hi
    exact hq env H φ a w hk h
  | o :: os, is, env, H, φ, a, w, hi, hok, h, hk, hq => by
    cases hi with
    | cons ho ht =>
      rename_i i is
      simp only [List.all_cons,Bool.and_eq_true] at hok
      have hdst:(match o.dst with | some t=>decide (t < N) | none=>true)=true:=hok.1
      have rec_:∀ {env H φ a w},Sim x N ⟨env,H⟩ φ a w→opsD P Γ (all.toList.map (·.dst)) (stripOps os) env H k→wpOps P all Q is a w:=fun hs hk=>opsD_wp hΓ os is _ _ _ _ _ ht hok.2 hs hk hq
      have run_:opD P Γ env H o.op (fun v H'=>opsD P Γ (all.toList.map (·.dst)) (stripOps os) (updO env o.dst v) H' k)→o.wp P a w (wpOps P all Q is) Q:=fun hk =>
        op_wp hΓ h hk fun v c H' φ' w' hk' hs hv=>rec_ (hs.putO hdst hv) hk'
      have skip_:opsD P Γ (all.toList.map (·.dst)) (stripOps os) (updO env o.dst (.tup [])) H k→wpOps P all Q is (a.put o.dst Go.undef) w:=fun hk =>
        rec_ (h.putO hdst (by simp [VS,VSs,Go.undef])) hk
      simp only [wpOps,ho]
      simp only [stripOps,opsD] at hk
      cases hg:o.guard with
      | none =>
        simp only [hg] at hk
        have hw:Region.wanted o (yielded all a.tmps)=true:=by simp [Region.wanted,hg]
        rw [if_pos hw]
        exact .inl (run_ hk)
      | some jw =>
        obtain ⟨j,want⟩:=jw
        simp only [hg] at hk
        cases hs:slotOf (all.toList.map (·.dst)) j with
        | none=>simp only [hs] at hk
        | some t =>
          simp only [hs] at hk
          have hy:yielded all a.tmps j=match a.tmps[t]? with | some (.bool b)=>some b | _=>none:=by
            have hs':(all[j]?).bind (·.dst)=some t:=by
              unfold slotOf at hs
              rw [List.getElem?_map,Array.getElem?_toList] at hs
              cases hq:all[j]? with
              | none=>rw [hq] at hs;simp at hs
              | some o=>rw [hq] at hs;simpa using hs
            unfold yielded
            rw [hs']
            rfl
          split at hk
          · rename_i b he
            have hb:=slot_bool h he
            have hw:Region.wanted o (yielded all a.tmps)=(b == want):=by simp [Region.wanted,hg,hy,hb]
            by_cases hbw:b=want
            · rw [if_pos (by rw [hw];simpa using hbw)]
              exact .inl (run_ (hk.1 hbw))
            · rw [if_neg (by rw [hw];simpa using hbw)]
              exact skip_ (hk.2 hbw)
          · rename_i he
            have hw:Region.wanted o (yielded all a.tmps)=false:=by
              rcases slot_tup h he with hb | hb <;> simp [Region.wanted,hg,hy,hb]
            rw [if_neg (by rw [hw];simp)]
            exact skip_ hk
          · exact hk.elim

theorem idx_range (all:Array Oper):Idx all (List.range all.size) all.toList:=by
  have:∀ (l:List Oper) (n:Nat),(∀ i,all[n + i]? = l[i]?)→Idx all (List.range' n l.length) l:=by
    intro l
    induction l with
    | nil=>intro n _;exact .nil
    | cons o l ih =>
      intro n h
      rw [List.length_cons,List.range'_succ]
      refine .cons (by have:=h 0;simpa using this) (ih (n + 1) fun i=>?_)
      have:=h (i + 1)
      rw [show n + 1 + i=n + (i + 1) by omega,this]
      simp
  have h:=this all.toList 0 (fun i=>by simp)
  rw [Array.length_toList] at h
  rw [List.range_eq_range']
  exact h

theorem Sim.keep (h:Sim x N ⟨env,H⟩ φ a w) (K:List Nat):Sim x N ⟨Go.Proofs.YtcgekblpbheikaaGreatDoor.keep K env,H⟩ φ a w:=by
  refine ⟨h.hs,fun t=>?_,h.low,h.defers,h.size,h.fr,h.old,h.ext,h.long,h.len0⟩
  simp only [Go.Proofs.YtcgekblpbheikaaGreatDoor.keep]
  split
  · exact h.env t
  · simp [VS,DS]

theorem W_region {n0 id:Nat} {ops:Array Oper} {Q:Exit→St→Prop} {s:St} (K:List Nat) {Γ:Table} (hΓ:Good P Γ) (hok:ops.toList.all (opOk N)=true)
    (h:opsD P Γ (dstsOf (stripOps ops.toList)) (stripOps ops.toList) s.env s.H fun env H=>Q .normal ⟨keep K env,H⟩):W P N n0 (.region id ops false) Q s:=by
  intro x φ a w hx hs
  rw [dsts_spec] at h
  refine wp_region (opsD_wp hΓ ops.toList (List.range ops.size) s.env s.H φ a w (idx_range ops) hok hs h ?_)
  intro env H φ a w hk hs'
  exact ⟨_,φ,hk,hs'.keep K⟩

end

def Fin (n0:Nat) (H:Heap) (r:V) (H':Heap) (r':V):Prop :=
  ∀ (X:Nat→Prop) (w:World) (φ:List (Nat × Nat)) (v:Value),HS X w φ H→VS w (owned X φ H) φ r v →
    ∃ φ',HS X w φ' H'∧VS w (owned X φ' H') φ' r' v∧(∀ id,id < n0→φ'[id]? = φ[id]?)∧n0≤H'.length∧∀ g,ownOf φ' H' g→ownOf φ H g

theorem Fin.same {n0:Nat} {H:Heap} {r:V} (h:n0≤H.length):Fin n0 H r H r:=fun X w φ v hs hv=>⟨φ,hs,hv,fun _ _=>rfl,h,fun _ h=>h⟩

def resD (P:Program):List ResultVar→Env→Heap→(List V→Prop)→Prop
  | [],_,_,k=>k []
  | .tmp t :: rest,env,H,k=>resD P rest env H fun l=>k (env t :: l)
  | .cell a ty :: rest,env,H,k=>loadD (tinfo P ty) (env a) H fun v=>resD P rest env H fun l=>k (v :: l)
def oneOf:List V→V
  | [v]=>v
  | l=>.tup l
def retQ (P:Program) (rs:List ResultVar) (n0:Nat) (Q:V→Heap→Prop):Exit→St→Prop
  | .normal,s | .ret,s=>resD P rs s.env s.H fun l=>∃ r' H',Fin n0 s.H (oneOf l) H' r'∧Q r' H'
  | _,_=>False

section
variable {P:Program} {x:Ctx} {N:Nat} {env:Env} {H:Heap} {φ:List (Nat × Nat)} {a:Act} {w:World}

theorem run_results {env : Env} {H : Heap} {φ : List (Nat × Nat)} {a : Act} {w : World} (h : Sim x N ⟨env, H⟩ φ a w) : ∀ (rs : List ResultVar) (k : List V → Prop), resD P rs env H k →
    ∃ l vs,((rs.mapM fun
      | .tmp t=>pure (a.tmps.getD t Go.undef)
      | .cell b t=>do loadVar t (← asAddr (a.tmps.getD b Go.undef)):Sem (List Value))).run P w=.ok vs w∧k l∧VSs w (owned x.X φ H) φ l vs
  | [],k,hk=>⟨[],[],by simp,hk,by simp [VSs]⟩
  | .tmp t :: rest,k,hk=>by
    obtain ⟨l,vs,h1,h2,h3⟩:=run_results h rest _ hk
    refine ⟨env t :: l,a.tmps.getD t Go.undef :: vs, ?_,h2, ?_⟩
    · have hp:∀ {α:Type} (q:α) (w:World),(pure q:Sem α).run P w=.ok q w:=fun _ _=>rfl
      simp only [List.mapM_cons,Sem.run_bind,hp,Result.andThen_ok,h1]
    · simp only [VSs]
      exact ⟨_,_,rfl,h.env t,h3⟩
  | .cell b t :: rest,k,hk=>by
    obtain ⟨v,c,ad,he,hr,hk,hv⟩:=load_runs (P:=P) h (h.env b) hk
    obtain ⟨l,vs,h1,h2,h3⟩:=run_results h rest _ hk
    refine ⟨c :: l,v :: vs, ?_,h2, ?_⟩
    · have hp:∀ {α:Type} (q:α) (w:World),(pure q:Sem α).run P w=.ok q w:=fun _ _=>rfl
      have hl:(do loadVar t (← asAddr (a.tmps.getD b Go.undef)):Sem Value).run P w=.ok v w:=by
        rw [he] at hr ⊢
        exact hr
      simp only [List.mapM_cons,Sem.run_bind,Result.andThen_ok,h1,hp]
      simp only [Sem.run_bind] at hl
      rw [hl]
      simp only [Result.andThen_ok]
      rw [h1]
      rfl
    · simp only [VSs]
      exact ⟨_,_,rfl,hv,h3⟩

def envFrom:Nat→List V→List (Nat × V)
  | _,[]=>[]
  | n,v :: l=>(n,v) :: envFrom (n + 1) l
def envOf (vs:List V):Env:=mk (envFrom 0 vs)
theorem mk_envFrom:∀ (vs:List V) (n t:Nat),mk (envFrom n vs) (n + t)=vs.getD t (.d .undef)
  | [],n,t=>by simp [envFrom,mk]
  | v :: l,n,0=>by simp [envFrom,mk]
  | v :: l,n,t + 1=>by
    simp only [envFrom,mk]
    rw [if_neg (by omega),show n + (t + 1)=n + 1 + t by omega,mk_envFrom l]
    simp

theorem calls_of {f : FuncId} {fn : Func} {c : Code} {vs : List V} {H : Heap} {Q : V → Heap → Prop} (hf : P.funcs[f]? = some fn) (he : enters P f = true) (hb : fn.body = some c)
    (hn:vs.length≤fn.ntmps) (h:W P fn.ntmps H.length c (retQ P fn.results.toList H.length Q) ⟨envOf vs,H⟩):CallsD P f vs H Q:=by
  refine ⟨he,fun X w φ args hX hs hv=>calls_of_wp hf hb ?_⟩
  have hlen:=VSs.length _ _ hv
  have hal:args.size=vs.length:=by simpa using hlen.symm
  have hsim:Sim ⟨X,w,φ,H⟩ fn.ntmps ⟨envOf vs,H⟩ φ { tmps:=args++Array.replicate (fn.ntmps - args.size) Go.undef,defers:=[] } w:=by
    refine ⟨hs,fun t=>?_,hX,rfl,by simp;omega,Fr.refl w _,fun g _ h=>h,Ext.refl _,Nat.le_refl _,hs.len⟩
    have hme:=mk_envFrom vs 0 t
    rw [Nat.zero_add] at hme
    simp only [envOf]
    rw [hme,List.getD_eq_getElem?_getD]
    cases hq:vs[t]? with
    | none=>simp [VS,DS]
    | some c =>
      obtain ⟨v,h1,h2⟩:=VSs.get _ _ hv t c hq
      have ht:t < args.size:=by rw [hal];exact (List.getElem?_eq_some_iff.1 hq).1
      have:(args++Array.replicate (fn.ntmps - args.size) Go.undef).getD t Go.undef=v:=by
        rw [Array.getD_eq_getD_getElem?,Array.getElem?_append_left ht]
        rw [Array.getElem?_toList] at h1
        rw [h1]
        rfl
      simp only [Option.getD_some]
      rw [this]
      exact h2
  refine wp_mono (h ⟨X,w,φ,H⟩ φ _ w rfl hsim) ?_
  rintro e a' w' ⟨s',φ',hq,hs'⟩
  have fin:retQ P fn.results.toList H.length Q .normal s'→a'.defers=[]∧∃ v,(results fn a'.tmps).run P w'=.ok v w'∧∃ v' r φ' H',Ending.returned v=.returned v'∧Q r H'∧HS X w' φ' H'∧VS w' (owned X φ' H') φ' r v'∧Fr w (ownOf φ H) w' ∧
      Ext φ φ'∧H.length≤H'.length∧∀ g,g < w.heap.size→ownOf φ' H' g→ownOf φ H g:=by
    intro hq
    refine ⟨hs'.defers, ?_⟩
    obtain ⟨l,vs',h1,⟨r',H',hfin,hQ⟩,h3⟩:=run_results (P:=P) hs' fn.results.toList _ hq
    have hlv:=VSs.length _ _ h3
    have hres:(results fn a'.tmps).run P w'=.ok (if h:vs'.toArray.size=1 then vs'.toArray[0] else .tuple vs'.toArray) w':=by
      unfold results
      rw [Array.mapM_eq_mapM_toList,← bind_pure_comp]
      simp only [Sem.run_bind]
      erw [h1]
      rfl
    have hone:VS w' (owned X φ' s'.H) φ' (oneOf l) (if h:vs'.toArray.size=1 then vs'.toArray[0] else .tuple vs'.toArray):=by
      by_cases h1':vs'.length=1
      · obtain ⟨v,rfl⟩:=List.length_eq_one_iff.1 h1'
        obtain ⟨c,rfl⟩:=List.length_eq_one_iff.1 (hlv.trans h1')
        simp only [VSs] at h3
        obtain ⟨v',l',e,h4,_⟩:=h3
        cases e
        simpa [oneOf] using h4
      · have hl1:l.length ≠ 1:=by omega
        rw [dif_neg (by simpa using h1')]
        have:oneOf l=.tup l:=by
          match l,hl1 with
          | [],_=>rfl
          | _ :: _ :: _,_=>rfl
        rw [this]
        simp only [VS]
        exact ⟨_,rfl,by simpa using h3⟩
    obtain ⟨φ'',g1,g2,g3,g4,g5⟩:=hfin X w' φ' _ hs'.hs hone
    refine ⟨_,hres,_,r',φ'',H',rfl,hQ,g1,g2,hs'.fr, ?_,g4,fun g hg ho=>hs'.old g hg (g5 g ho)⟩
    intro id hid
    rw [g3 id (by rw [← hs.len];exact hid)]
    exact hs'.ext id hid
  cases e with
  | normal=>exact fin hq
  | ret=>exact fin hq
  | exit id=>exact hq.elim
  | goto l=>exact hq.elim
  | panic c=>exact hq.elim
  | outgrown=>exact hq.elim
end
end Go.Proofs.YtcgekblpbheikaaGreatDoor
end

section
/- The abstract machine,part 18: a region that draws its order. One order is walked;the others come to the same. No condition. -/
namespace Go.Proofs.YtcgekblpbheikaaGreatDoor
set_option linter.unusedVariables false
set_option linter.unusedSimpArgs false

def Det1 (F:(V→Prop)→Prop):Prop:=∀ k,F k→∃ v,k v∧∀ k':V→Prop,k' v→F k'

theorem det_optK (o:Option D):Det1 (optK o):=by
  intro k h
  cases o with
  | none=>exact h.elim
  | some d=>exact ⟨_,h,fun k' h'=>h'⟩
theorem det_pick (c a b:V):Det1 (pickD c a b):=by
  intro k h
  unfold pickD at h ⊢
  split at h
  · rename_i t
    split at h
    · exact ⟨_,h,fun k' h'=>h'⟩
    · rename_i hn
      cases t with
      | true=>exact ⟨a,h.1 rfl,fun k' h'=>⟨fun _=>h',fun q=>(by cases q)⟩⟩
      | false=>exact ⟨b,h.2 rfl,fun k' h'=>⟨fun q=>(by cases q),fun _=>h'⟩⟩
  · exact h.elim
theorem det_nilCheck (x:V):Det1 (nilCheckD x):=by
  intro k h
  unfold nilCheckD at h
  split at h
  all_goals first
    | exact h.elim
    | exact ⟨_,h,fun k' h'=>by simpa [nilCheckD] using h'⟩
theorem det_un (op:UnOp) (x:V):Det1 (unD op x):=by
  intro k h
  unfold unD at h
  split at h
  all_goals first
    | exact h.elim
    | exact ⟨_,h,fun k' h'=>by simpa [unD] using h'⟩
theorem det_convert (P:Program) (src dst:TypeId) (x:V):Det1 (convertD P src dst x):=by
  intro k h
  unfold convertD at h ⊢
  split at h
  · rename_i h1 h2
    try simp only [h1,h2]
    split at h
    · rename_i h3;exact ⟨_,h,fun k' h'=>h'⟩
    · rename_i h3;exact ⟨_,h,fun k' h'=>h'⟩
    · exact h.elim
  · exact h.elim
theorem det_fieldAddr (P:Program) (s:TypeId) (x:V) (f:Nat):Det1 (fieldAddrD P s x f):=by
  intro k h
  unfold fieldAddrD at h ⊢
  split at h
  · rename_i h1
    try simp only [h1]
    split at h
    · rename_i h2
      try simp only [h2]
      obtain ⟨h3,h⟩:=h
      split at h
      · exact ⟨_,h.2,fun k' h'=>⟨h3,h.1,h'⟩⟩
      · exact ⟨_,h,fun k' h'=>⟨h3,h'⟩⟩
      · exact h.elim
    · exact h.elim
  · exact h.elim
theorem det_field (P : Program) (s : TypeId) (x : V) (f : Nat) : Det1 (fieldD P s x f) := by
  intro k h
  unfold fieldD at h ⊢
  split at h
  · rename_i h1
    try simp only [h1]
    split at h
    · rename_i h2
      try simp only [h2]
      split at h
      · rename_i h3
        try simp only [h3]
        exact ⟨_,h.2.2,fun k' h'=>⟨h.1,h.2.1,h'⟩⟩
      · exact h.elim
    · exact h.elim
  · exact h.elim
theorem det_indexAddr (P:Program) (t:TypeId) (x ix:V):Det1 (indexAddrD P t x ix):=by
  intro k h
  unfold indexAddrD at h ⊢
  split at h
  · rename_i h1
    try simp only [h1]
    split at h
    · rename_i h2
      try simp only [h2]
      split at h
      · exact ⟨_,h.2.2,fun k' h'=>⟨h.1,h.2.1,h'⟩⟩
      · exact ⟨_,h.2.2,fun k' h'=>⟨h.1,h.2.1,h'⟩⟩
      · exact h.elim
    · exact h.elim
  · exact h.elim
theorem det_index (P:Program) (t:TypeId) (x ix:V):Det1 (indexD P t x ix):=by
  intro k h
  unfold indexD at h ⊢
  split at h
  · rename_i h1
    try simp only [h1]
    split at h
    · exact ⟨_,h.2,fun k' h'=>⟨h.1,h'⟩⟩
    · exact h.elim
  · exact h.elim
theorem det_extract (x:V) (i:Nat):Det1 (extractD x i):=by
  intro k h
  unfold extractD at h ⊢
  split at h
  · obtain ⟨v,h1,h2⟩:=h
    exact ⟨v,h2,fun k' h'=>⟨v,h1,h'⟩⟩
  · exact h.elim
theorem det_len (P:Program) (t:TypeId) (x:V):Det1 (lenD P t x):=by
  intro k h
  unfold lenD at h ⊢
  split at h
  all_goals first
    | exact h.elim
    | (rename_i h1;exact ⟨_,h,fun k' h'=>h'⟩)
theorem det_build (ti:Option TI) (parts:List (Nat × V)):Det1 (buildD ti parts):=by
  intro k h
  unfold buildD at h ⊢
  split at h
  · exact h.elim
  · split at h
    · rename_i h1
      obtain ⟨h2,l,h3,h4⟩:=h
      exact ⟨_,h4,fun k' h'=>⟨h2,l,h3,h'⟩⟩
    · exact h.elim
theorem det_bound {v:Option V} {d:Nat} {F:Nat→(V→Prop)→Prop} (hF:∀ n,Det1 (F n)):Det1 (fun k=>boundD v d fun n=>F n k):=by
  intro k h
  unfold boundD at h ⊢
  split at h
  · exact hF _ k h
  · obtain ⟨v,h1,h2⟩:=hF _ k h.2
    exact ⟨v,h1,fun k' h'=>⟨h.1,h2 k' h'⟩⟩
  · exact h.elim
theorem det_side {s:Prop} {v:V}:Det1 (fun k=>s∧k v):=fun k h=>⟨v,h.2,fun k' h'=>⟨h.1,h'⟩⟩
theorem det_under {s:Prop} {F:(V→Prop)→Prop} (hF:Det1 F):Det1 (fun k=>s∧F k):=fun k h=>by
  obtain ⟨v,h1,h2⟩:=hF k h.2
  exact ⟨v,h1,fun k' h'=>⟨h.1,h2 k' h'⟩⟩
theorem det_slice (P:Program) (t:TypeId) (x:V) (lo hi mx:Option V):Det1 (sliceD P t x lo hi mx):=by
  intro k h
  unfold sliceD at h ⊢
  split at h
  · rename_i h1
    try simp only [h1]
    split at h
    · rename_i h2
      try simp only [h2]
      split at h
      · exact det_under (det_bound fun _=>det_bound fun _=>det_side) k h
      · exact det_under (det_bound fun _=>det_bound fun _=>det_side) k h
      · exact (det_bound fun _=>det_bound fun _=>det_side) k h
      · exact h.elim
    · exact h.elim
  · rename_i h1
    try simp only [h1]
    split at h
    · exact (det_bound fun _=>det_bound fun _=>det_side) k h
    · exact h.elim
  · exact h.elim

def binT (P:Program) (op:BinOp) (t:TypeId) (x y:V) (k:V→Prop):Prop :=
  match x,y with
  | .d (.ro ..),.d .nilsl=>False
  | _,_=>binD P op t x y k
theorem det_bin (P : Program) (op : BinOp) (t : TypeId) (x y : V) : Det1 (binT P op t x y) := by
  intro k h
  unfold binT at h ⊢
  split at h
  · exact h.elim
  · rename_i hne
    unfold binD at h ⊢
    split at h
    · split at h
      · exact det_optK _ k h
      · exact det_optK _ k h
      · exact det_under (det_optK _) k h
    · split at h
      · exact det_side k h
      · exact det_optK _ k h
    · split at h
      · rename_i h1;exact det_optK _ k h
      · exact h.elim
    · split at h
      · rename_i h1
        split at h
        · exact det_optK _ k h
        · exact det_optK _ k h
        · exact det_optK _ k h
        · exact h.elim
      · exact h.elim
    · split at h
      · rename_i h1
        split at h
        · exact det_optK _ k h
        · exact det_optK _ k h
        · exact absurd rfl (hne _ _ _ rfl)
        · exact h.elim
      · exact h.elim
    · exact h.elim

theorem det_load (ti : Option TI) (a : V) (H : Heap) (k : V → Prop) (h : loadD ti a H k) : ∃ v, k v ∧ ∀ (l : Heap) (k' : V → Prop), k' v → loadD ti a (H ++ l) k' := by
  unfold loadD at h ⊢
  split at h
  · exact h.elim
  · split at h
    · exact ⟨_,h.2.2,fun l k' h'=>⟨h.1,h.2.1,h'⟩⟩
    · split at h
      · rename_i hid
        obtain ⟨h1,l0,h2,h3,h4,h5⟩:=h
        refine ⟨_,h5,fun l k' h'=>?_⟩
        have hlt:=(List.getElem?_eq_some_iff.1 hid).1
        simp only [List.getElem?_append_left hlt,hid]
        exact ⟨h1,l0,h2,h3,h4,h'⟩
      · exact h.elim
    · exact h.elim

inductive Cl where
  | pure
  | read
  | grow
  | any
  deriving DecidableEq
def ownCallee (own:List FuncId):Callee→Bool
  | .value (.func g)=>own.contains g
  | .value _=>false
  | .builtin .len=>false
  | _=>true
def growCallee (own:List FuncId):Callee→Bool
  | .value (.func g)=>own.contains (g + 1000000)
  | _=>false
def clOf (own:List FuncId):Op→Cl
  | .move _ | .assign _ | .pick .. | .nilCheck _ | .unOp .. | .slice .. | .fieldAddr .. | .field .. | .indexAddr .. | .index .. | .extract .. | .build .. | .binOp .. | .makeFunc ..=>.pure
  | .load ..=>.read
  | .convert src _ _=>if own.contains (src + 2000000) then .any else .pure
  | .alloc _ | .box .. | .buildSlice .. | .makeSlice ..=>.grow
  | .call c=>if growCallee own c.callee then .grow else if ownCallee own c.callee then .any else .pure
  | _=>.any

def goT (Γ:Table) (g:FuncId) (vs:List V) (k:V→Prop):Prop :=
  match Γ g vs with
  | some (r,[])=>k r
  | _=>False
theorem det_go (Γ:Table) (g:FuncId) (vs:List V):Det1 (goT Γ g vs):=by
  intro k h
  unfold goT at h ⊢
  split at h
  · exact ⟨_,h,fun k' h'=>h'⟩
  · exact h.elim
theorem goT_goD {P:Program} {Γ:Table} {g:FuncId} {vs:List V} {H:Heap} {k:V→Heap→Prop} (h:goT Γ g vs fun v=>k v H):goD P Γ g vs H k:=by
  unfold goT at h
  unfold goD
  split at h
  · rename_i e;simp only [e];exact h
  · exact h.elim
def callT (P:Program) (Γ:Table) (env:Env) (c:Call) (k:V→Prop):Prop :=
  match c.callee with
  | .value f=>(match ev env f with
    | .d (.clo g n cap)=>goT Γ g (c.args.toList.map (ev env)++upto n fun j=>.d (cap j)) k
    | .clo g l=>goT Γ g (c.args.toList.map (ev env)++l) k
    | _=>False)
  | .builtin .len=>(match c.args.toList,c.argTypes.toList with
    | [x],[t]=>lenD P t (ev env x) k
    | _,_=>False)
  | _=>False
theorem callT_callD {P:Program} {Γ:Table} {env:Env} {H:Heap} {c:Call} {k:V→Heap→Prop} (h:callT P Γ env c fun v=>k v H):callD P Γ env H c k:=by
  obtain ⟨callee,args,ct⟩:=c
  cases callee with
  | value f =>
    simp only [callT,callD] at h ⊢
    split at h
    · rename_i e
      simp only [e]
      exact goT_goD h
    · rename_i e
      simp only [e]
      exact goT_goD h
    · exact h.elim
  | invoke r m=>simp only [callT] at h
  | builtin b =>
    cases b <;> simp only [callT,callD] at h ⊢
    all_goals exact h

def callG (P:Program) (env:Env) (H:Heap) (c:Call) (k:V→Heap→Prop):Prop :=
  match c.callee with
  | .value (.func g)=>∃ r R,CallsD P g (c.args.toList.map (ev env)) H (fun r' H'=>r'=r∧H'=H++R)∧k r (H++R)
  | _=>False
def opT (P:Program) (Γ:Table) (own:List FuncId) (env:Env) (H:Heap) (o:Op) (k:V→Heap→Prop):Prop :=
  match o with
  | .binOp op t x y _=>binT P op t (ev env x) (ev env y) fun v=>k v H
  | .call c=>if growCallee own c.callee then callG P env H c k else if ownCallee own c.callee then callD P Γ env H c k else callT P Γ env c fun v=>k v H
  | .convert src dst x=>if own.contains (src + 2000000) then convH P src dst (ev env x) H k else convertD P src dst (ev env x) fun v=>k v H
  | o=>opD P Γ env H o k
theorem convertD_H {P:Program} {src dst:TypeId} {x:V} {H:Heap} {k:V→Heap→Prop} (h:convertD P src dst x fun v=>k v H):convH P src dst x H k:=by
  unfold convH
  split
  · unfold convertD at h
    split at h
    · split at h
      · rename_i e;cases e
      · rename_i e;cases e
      · exact h.elim
    · exact h.elim
  · exact h
theorem opT_opD {P:Program} {Γ:Table} {own:List FuncId} {env:Env} {H:Heap} {o:Op} {k:V→Heap→Prop} (hg:∀ c,o=.call c→growCallee own c.callee=false) (h:opT P Γ own env H o k):opD P Γ env H o k:=by
  unfold opT at h
  split at h
  · unfold binT at h
    split at h
    · exact h.elim
    · exact h
  · rw [if_neg (by rw [hg _ rfl];decide)] at h
    split at h
    · exact h
    · exact callT_callD h
  · split at h
    · exact h
    · exact convertD_H h
  · exact h

theorem opT_env {P : Program} {Γ : Table} {own : List FuncId} {env env' : Env} {H : Heap} {o : Op} {k : V → Heap → Prop} (he : ∀ x ∈ o.operands.toList, ev env' x = ev env x) : opT P Γ own env' H o k = opT P Γ own env H o k := by
  have pairs:∀ (ps:Array (Nat × Operand)),(∀ x∈ps.toList.map (·.2),ev env' x=ev env x)→(ps.toList.map fun p=>(p.1,ev env' p.2))=(ps.toList.map fun p=>(p.1,ev env p.2)):=fun ps hp =>
    List.map_congr_left fun p hm=>by rw [hp p.2 (List.mem_map.2 ⟨p,hm,rfl⟩)]
  have args:∀ (xs:Array Operand),(∀ x∈xs.toList,ev env' x=ev env x)→xs.toList.map (ev env')=xs.toList.map (ev env):=fun xs hx=>List.map_congr_left fun x hm=>hx x hm
  cases o
  case call c =>
    simp only [Op.operands,Call.operands] at he
    have ha:c.args.toList.map (ev env')=c.args.toList.map (ev env):=args _ fun x hx=>he x (by simp [hx])
    obtain ⟨callee,cargs,ct⟩:=c
    simp only [opT]
    cases callee with
    | value f =>
      have hf:ev env' f=ev env f:=he f (by simp)
      cases f <;> simp only [callD,callT,callG,hf,ha]
    | invoke r m=>simp only [callD,callT,callG]
    | builtin b =>
      cases b <;> simp only [callD,callT,callG]
      case len =>
        simp only [] at ha
        cases hcl:cargs.toList with
        | nil=>rfl
        | cons x1 l1 =>
          rw [hcl] at ha
          simp only [List.map_cons,List.cons.injEq] at ha
          cases l1 with
          | nil =>
            cases hct:ct.toList with
            | nil=>rfl
            | cons t1 lt =>
              cases lt with
              | nil=>simp only [ha.1]
              | cons t2 lt=>rfl
          | cons x2 l2=>rfl
      case append =>
        simp only [] at ha
        cases hcl:cargs.toList with
        | nil=>rfl
        | cons x1 l1 =>
          rw [hcl] at ha
          simp only [List.map_cons,List.cons.injEq] at ha
          cases l1 with
          | nil=>rfl
          | cons x2 l2 =>
            simp only [List.map_cons,List.cons.injEq] at ha
            cases l2 with
            | nil =>
              cases hct:ct.toList with
              | nil=>rfl
              | cons t1 lt =>
                cases lt with
                | nil=>rfl
                | cons t2 lt =>
                  cases lt with
                  | nil=>simp only [ha.1,ha.2.1]
                  | cons t3 lt=>rfl
            | cons x3 l3=>rfl
      case copy =>
        simp only [] at ha
        cases hcl:cargs.toList with
        | nil=>rfl
        | cons x1 l1 =>
          rw [hcl] at ha
          simp only [List.map_cons,List.cons.injEq] at ha
          cases l1 with
          | nil=>rfl
          | cons x2 l2 =>
            simp only [List.map_cons,List.cons.injEq] at ha
            cases l2 with
            | nil =>
              cases hct:ct.toList with
              | nil=>rfl
              | cons t1 lt =>
                cases lt with
                | nil=>rfl
                | cons t2 lt =>
                  cases lt with
                  | nil=>simp only [ha.1,ha.2.1]
                  | cons t3 lt=>rfl
            | cons x3 l3=>rfl
  case build t ps=>simp only [opT,opD];rw [pairs ps fun x hx=>he x (by simpa [Op.operands] using hx)]
  case buildSlice t n ps=>simp only [opT,opD];rw [pairs ps fun x hx=>he x (by simpa [Op.operands] using hx)]
  case makeFunc f first cap =>
    cases f <;> simp only [opT,opD]
    rw [args cap fun x hx=>he x (by simp [Op.operands,hx])]
  case slice t x lo hi mx =>
    simp only [Op.operands] at he
    simp only [opT,opD]
    rw [he x (by simp)]
    have h1:lo.map (ev env')=lo.map (ev env):=by cases lo with | none=>rfl | some y=>simp [he y (by simp)]
    have h2:hi.map (ev env')=hi.map (ev env):=by cases hi with | none=>rfl | some y=>simp [he y (by simp)]
    have h3:mx.map (ev env')=mx.map (ev env):=by cases mx with | none=>rfl | some y=>simp [he y (by simp)]
    rw [h1,h2,h3]
  all_goals first
    | (simp only [opT,opD];done)
    | (simp only [Op.operands,List.mem_cons,List.not_mem_nil,or_false,forall_eq_or_imp,forall_eq] at he
       simp only [opT,opD,he])

end Go.Proofs.YtcgekblpbheikaaGreatDoor
end

section
/- The abstract machine,part 19: a region that draws its order,continued: operations that may change places. No condition. -/
namespace Go.Proofs.YtcgekblpbheikaaGreatDoor
set_option linter.unusedVariables false
set_option linter.unusedSimpArgs false

section
variable {P:Program} {Γ:Table} {own:List FuncId}

theorem det_callT (env:Env) (c:Call):Det1 (callT P Γ env c):=by
  intro k h
  obtain ⟨callee,args,ct⟩:=c
  cases callee with
  | value f =>
    simp only [callT] at h ⊢
    split at h
    · exact det_go _ _ _ k h
    · exact det_go _ _ _ k h
    · exact h.elim
  | invoke r m=>simp only [callT] at h
  | builtin b =>
    cases b <;> simp only [callT] at h ⊢
    split at h
    · exact det_len _ _ _ k h
    · exact h.elim

theorem opT_pure {env : Env} {H : Heap} {o : Op} {k : V → Heap → Prop} (hc : clOf own o = .pure) (h : opT P Γ own env H o k) :
    ∃ v,k v H∧∀ (env':Env) (H':Heap) (k':V→Heap→Prop),(∀ x∈o.operands.toList,ev env' x=ev env x)→k' v H'→opT P Γ own env' H' o k':=by
  have base:∃ v,k v H∧∀ (H':Heap) (k':V→Heap→Prop),k' v H'→opT P Γ own env H' o k':=by
    cases o <;> simp only [clOf] at hc
    all_goals try (exact absurd hc (by decide))
    case move x=>exact ⟨_,h,fun H' k' hk=>hk⟩
    case assign x=>exact ⟨_,h,fun H' k' hk=>hk⟩
    case pick c a b=>simp only [opT,opD] at h;obtain ⟨v,h1,h2⟩:=det_pick _ _ _ _ h;exact ⟨v,h1,fun H' k' hk=>h2 (fun v=>k' v H') hk⟩
    case build t ps=>simp only [opT,opD] at h;obtain ⟨v,h1,h2⟩:=det_build _ _ _ h;exact ⟨v,h1,fun H' k' hk=>h2 (fun v=>k' v H') hk⟩
    case nilCheck x=>simp only [opT,opD] at h;obtain ⟨v,h1,h2⟩:=det_nilCheck _ _ h;exact ⟨v,h1,fun H' k' hk=>h2 (fun v=>k' v H') hk⟩
    case binOp op t x y t'=>simp only [opT,opD] at h;obtain ⟨v,h1,h2⟩:=det_bin _ _ _ _ _ _ h;exact ⟨v,h1,fun H' k' hk=>h2 (fun v=>k' v H') hk⟩
    case unOp op t x=>simp only [opT,opD] at h;obtain ⟨v,h1,h2⟩:=det_un _ _ _ h;exact ⟨v,h1,fun H' k' hk=>h2 (fun v=>k' v H') hk⟩
    case convert s d x =>
      split at hc
      · cases hc
      rename_i hno
      simp only [opT,hno,if_false,Bool.false_eq_true] at h ⊢;obtain ⟨v,h1,h2⟩:=det_convert _ _ _ _ _ h;exact ⟨v,h1,fun H' k' hk=>h2 (fun v=>k' v H') hk⟩
    case slice t x lo hi mx=>simp only [opT,opD] at h;obtain ⟨v,h1,h2⟩:=det_slice _ _ _ _ _ _ _ h;exact ⟨v,h1,fun H' k' hk=>h2 (fun v=>k' v H') hk⟩
    case fieldAddr s x f=>simp only [opT,opD] at h;obtain ⟨v,h1,h2⟩:=det_fieldAddr _ _ _ _ _ h;exact ⟨v,h1,fun H' k' hk=>h2 (fun v=>k' v H') hk⟩
    case field s x f=>simp only [opT,opD] at h;obtain ⟨v,h1,h2⟩:=det_field _ _ _ _ _ h;exact ⟨v,h1,fun H' k' hk=>h2 (fun v=>k' v H') hk⟩
    case indexAddr t x ix=>simp only [opT,opD] at h;obtain ⟨v,h1,h2⟩:=det_indexAddr _ _ _ _ _ h;exact ⟨v,h1,fun H' k' hk=>h2 (fun v=>k' v H') hk⟩
    case index t x ix=>simp only [opT,opD] at h;obtain ⟨v,h1,h2⟩:=det_index _ _ _ _ _ h;exact ⟨v,h1,fun H' k' hk=>h2 (fun v=>k' v H') hk⟩
    case extract t i=>simp only [opT,opD] at h;obtain ⟨v,h1,h2⟩:=det_extract _ _ _ h;exact ⟨v,h1,fun H' k' hk=>h2 (fun v=>k' v H') hk⟩
    case makeFunc f first cap =>
      cases f with
      | func f=>exact ⟨_,h.2,fun H' k' hk=>⟨h.1,hk⟩⟩
      | _=>exact h.elim
    case call c =>
      split at hc
      · cases hc
      · rename_i hng
        split at hc
        · cases hc
        · rename_i hno
          simp only [opT,hng,hno,if_false,Bool.false_eq_true] at h ⊢
          obtain ⟨v,h1,h2⟩:=det_callT _ _ _ h
          exact ⟨v,h1,fun H' k' hk=>h2 (fun v=>k' v H') hk⟩
  obtain ⟨v,h1,h2⟩:=base
  exact ⟨v,h1,fun env' H' k' he hk=>by rw [opT_env he];exact h2 H' k' hk⟩

theorem opT_read {env:Env} {H:Heap} {o:Op} {k:V→Heap→Prop} (hc:clOf own o=.read) (h:opT P Γ own env H o k) :
    ∃ v,k v H∧∀ (env':Env) (l:Heap) (k':V→Heap→Prop),(∀ x∈o.operands.toList,ev env' x=ev env x)→k' v (H++l)→opT P Γ own env' (H++l) o k':=by
  cases o <;> simp only [clOf] at hc
  all_goals try (exact absurd hc (by decide))
  case load t a =>
    simp only [opT,opD] at h
    obtain ⟨v,h1,h2⟩:=det_load _ _ _ _ h
    exact ⟨v,h1,fun env' l k' he hk=>by rw [opT_env he];exact h2 l (fun v=>k' v (H++l)) hk⟩
  case convert s d x=>split at hc <;> cases hc
  case call c =>
    split at hc
    · cases hc
    · split at hc <;> cases hc

theorem opT_grow {env : Env} {H : Heap} {o : Op} {k : V → Heap → Prop} (hc : clOf own o = .grow) (h : opT P Γ own env H o k) : opT P Γ own env H o fun v H' => k v H' ∧ ∃ l, H' = H ++ l := by
  cases o <;> simp only [clOf] at hc
  all_goals try (exact absurd hc (by decide))
  case convert s d x=>split at hc <;> cases hc
  case alloc t =>
    simp only [opT,opD,allocD] at h ⊢
    split at h
    · exact h.elim
    · exact ⟨h.1,h.2,_,rfl⟩
  case box t x =>
    simp only [opT,opD,boxD] at h ⊢
    split at h
    · exact h.elim
    · exact ⟨h.1,h.2,_,rfl⟩
  case buildSlice t n ps =>
    simp only [opT,opD,buildSliceD] at h ⊢
    split at h
    · split at h
      · exact ⟨h.1,h.2,_,rfl⟩
      · exact h.elim
    · exact h.elim
  case makeSlice t l c =>
    simp only [opT,opD,makeSliceD] at h ⊢
    split at h
    · split at h
      · split at h
        · exact ⟨h.1,h.2,_,rfl⟩
        · exact h.elim
      · exact h.elim
    · exact h.elim
  case call c =>
    split at hc
    · rename_i hg
      simp only [opT,hg,if_true] at h ⊢
      unfold callG at h ⊢
      split at h
      · obtain ⟨r,R,h1,h2⟩:=h
        exact ⟨r,R,h1,h2,R,rfl⟩
      · exact h.elim
    · split at hc <;> cases hc

theorem goD_mono {g:FuncId} {vs:List V} {H:Heap} {k k':V→Heap→Prop} (h:goD P Γ g vs H k) (hk:∀ v h,k v h→k' v h):goD P Γ g vs H k':=by
  unfold goD at h ⊢
  split at h
  · exact hk _ _ h
  · exact hk _ _ h
  · exact h.mono hk
theorem callD_mono {env : Env} {H : Heap} {c : Call} {k k' : V → Heap → Prop} (h : callD P Γ env H c k) (hk : ∀ v h, k v h → k' v h) : callD P Γ env H c k' := by
  obtain ⟨callee,args,ct⟩:=c
  cases callee with
  | value f =>
    simp only [callD] at h ⊢
    split at h
    · exact goD_mono h hk
    · exact goD_mono h hk
    · exact h.elim
  | invoke r m=>simp only [callD] at h
  | builtin b =>
    cases b <;> simp only [callD] at h ⊢
    case len =>
      split at h
      · obtain ⟨v,h1,h2⟩:=det_len _ _ _ _ h
        exact h2 (fun v=>k' v H) (hk _ _ h1)
      · exact h.elim
    case copy =>
      split at h
      · refine ⟨h.1, ?_⟩
        have h:=h.2
        have em:∀ {e:Nat} {x:V} {F G:List (List V)→Prop},(∀ n,F n→G n)→elemsD e x H F→elemsD e x H G:=fun hFG h=>elemsD_mono h hFG
        unfold copyD at h ⊢
        split at h
        · split at h
          · refine ⟨h.1,em (fun n h=>?_) h.2⟩
            split at h
            · refine ⟨h.1, ?_⟩
              have h:=h.2
              split at h
              · exact ⟨h.1,h.2.1,hk _ _ h.2.2⟩
              · exact h.elim
            · exact hk _ _ h
            · exact h.elim
          · exact h.elim
        · exact h.elim
      · exact h.elim
    case append =>
      split at h
      · refine ⟨h.1, ?_⟩
        have h:=h.2
        unfold appendD at h ⊢
        split at h
        · split at h
          · refine ⟨h.1,elemsD_mono h.2 fun news h=>?_⟩
            split at h
            · refine ⟨h.1, ?_⟩
              have h:=h.2
              split at h
              · exact ⟨h.1,h.2.1,h.2.2.1,h.2.2.2.1,hk _ _ h.2.2.2.2⟩
              · exact h.elim
            · exact ⟨h.1,fun e=>hk _ _ (h.2.1 e),fun e=>hk _ _ (h.2.2 e)⟩
            · exact h.elim
          · exact h.elim
        · exact h.elim
      · exact h.elim

theorem opT_mono {env : Env} {H : Heap} {o : Op} {k k' : V → Heap → Prop} (h : opT P Γ own env H o k) (hk : ∀ v h, k v h → k' v h) : opT P Γ own env H o k' := by
  cases hcl:clOf own o with
  | pure =>
    obtain ⟨v,h1,h2⟩:=opT_pure hcl h
    exact h2 env H k' (fun _ _=>rfl) (hk _ _ h1)
  | read =>
    obtain ⟨v,h1,h2⟩:=opT_read hcl h
    have:=h2 env [] k' (fun _ _=>rfl) (by rw [List.append_nil];exact hk _ _ h1)
    rwa [List.append_nil] at this
  | grow =>
    cases o <;> simp only [clOf] at hcl
    all_goals try (exact absurd hcl (by decide))
    case convert s d x=>split at hcl <;> cases hcl
    case alloc t =>
      simp only [opT,opD,allocD] at h ⊢
      split at h
      · exact h.elim
      · exact ⟨h.1,hk _ _ h.2⟩
    case box t x =>
      simp only [opT,opD,boxD] at h ⊢
      split at h
      · exact h.elim
      · exact ⟨h.1,hk _ _ h.2⟩
    case buildSlice t n ps =>
      simp only [opT,opD,buildSliceD] at h ⊢
      split at h
      · split at h
        · exact ⟨h.1,hk _ _ h.2⟩
        · exact h.elim
      · exact h.elim
    case makeSlice t l c =>
      simp only [opT,opD,makeSliceD] at h ⊢
      split at h
      · split at h
        · split at h
          · exact ⟨h.1,hk _ _ h.2⟩
          · exact h.elim
        · exact h.elim
      · exact h.elim
    case call c =>
      split at hcl
      · rename_i hg
        simp only [opT,hg,if_true] at h ⊢
        unfold callG at h ⊢
        split at h
        · obtain ⟨r,R,h1,h2⟩:=h
          exact ⟨r,R,h1,hk _ _ h2⟩
        · exact h.elim
      · split at hcl <;> cases hcl
  | any =>
    cases o <;> simp only [clOf] at hcl
    all_goals try (exact absurd hcl (by decide))
    case convert s d x =>
      split at hcl
      · rename_i hy
        simp only [opT,hy,if_true] at h ⊢
        exact convH_mono h hk
      · cases hcl
    case store t a x =>
      simp only [opT,opD,storeD] at h ⊢
      split at h
      · exact h.elim
      · split at h
        · split at h
          · obtain ⟨h1,l,h2,h3,h4,h5,h6⟩:=h
            exact ⟨h1,l,h2,h3,h4,h5,hk _ _ h6⟩
          · exact h.elim
        · exact h.elim
    case call c =>
      split at hcl
      · cases hcl
      · rename_i hng
        split at hcl
        · rename_i hy
          simp only [opT,hng,hy,if_true,if_false,Bool.false_eq_true] at h ⊢
          exact callD_mono h hk
        · cases hcl
    all_goals (first | exact h.elim | (simp only [opT,opD] at h))
end

end Go.Proofs.YtcgekblpbheikaaGreatDoor
end

section
/- The abstract machine,part 20: a region that draws its order,by the walk of one order. No condition. -/
namespace Go.Proofs.YtcgekblpbheikaaGreatDoor
set_option linter.unusedVariables false
set_option linter.unusedSimpArgs false

def looks (all:List (Option Nat)) (o:SOp):List Nat :=
  (o.op.operands.toList.filterMap fun | .tmp t=>some t | _=>none)++(match o.guard with | some (j,_)=>(slotOf all j).toList | none=>[])
def stepT (P:Program) (Γ:Table) (own:List FuncId) (all:List (Option Nat)) (o:SOp) (env:Env) (H:Heap) (K:Env→Heap→Prop):Prop :=
  match o.guard with
  | none=>opT P Γ own env H o.op fun v H'=>K (updO env o.dst v) H'
  | some (j,want)=>match slotOf all j with
    | none=>False
    | some t=>match env t with
      | .d (.bool b)=>(b=want→opT P Γ own env H o.op fun v H'=>K (updO env o.dst v) H')∧(b ≠ want→K (updO env o.dst (.tup [])) H)
      | .tup []=>K (updO env o.dst (.tup [])) H
      | _=>False
def opsT (P:Program) (Γ:Table) (own:List FuncId) (all:List (Option Nat)):List SOp→Env→Heap→(Env→Heap→Prop)→Prop
  | [],env,H,k=>k env H
  | o :: rest,env,H,k=>stepT P Γ own all o env H fun e h=>opsT P Γ own all rest e h k

def apartB (all:List (Option Nat)) (z y:SOp):Bool :=
  (match z.dst with | some d=>!(looks all y).contains d && y.dst != some d | none=>true) && (match y.dst with | some d=>!(looks all z).contains d | none=>true)
def indepB (own:List FuncId) (all:List (Option Nat)) (z y:SOp):Bool :=
  apartB all z y && (match clOf own z.op with | .pure=>true | .read=>(match clOf own y.op with | .any=>false | _=>true) | _=>false)

section
variable {P:Program} {Γ:Table} {own:List FuncId} {all:List (Option Nat)}

theorem looks_ev {o:SOp} {env env':Env} (h:∀ t∈looks all o,env' t=env t):∀ x∈o.op.operands.toList,ev env' x=ev env x:=by
  intro x hx
  cases x with
  | tmp t=>exact h t (List.mem_append_left _ (List.mem_filterMap.2 ⟨_,hx,rfl⟩))
  | _=>rfl
theorem looks_guard {o:SOp} {env env':Env} (h:∀ t∈looks all o,env' t=env t) {j:Nat} {b:Bool} (hg:o.guard=some (j,b)) {t:Nat} (hs:slotOf all j=some t):env' t=env t :=
  h t (List.mem_append_right _ (by rw [hg];simp [hs]))

theorem stepT_mono {o:SOp} {env:Env} {H:Heap} {K K':Env→Heap→Prop} (h:stepT P Γ own all o env H K) (hk:∀ e h,K e h→K' e h):stepT P Γ own all o env H K':=by
  unfold stepT at h ⊢
  split at h
  · exact opT_mono h fun v h'=>hk _ _
  · split at h
    · exact h.elim
    · split at h
      · exact ⟨fun e=>opT_mono (h.1 e) fun v h'=>hk _ _,fun e=>hk _ _ (h.2 e)⟩
      · exact hk _ _ h
      · exact h.elim

theorem opT_effect {env:Env} {H:Heap} {o:Op} {k:V→Heap→Prop} (h:opT P Γ own env H o k):opT P Γ own env H o fun v h'=>k v h'∧(clOf own o ≠ .any→∃ l,h'=H++l):=by
  cases hc:clOf own o with
  | pure =>
    obtain ⟨v,h1,h2⟩:=opT_pure hc h
    exact h2 env H _ (fun _ _=>rfl) ⟨h1,fun _=>⟨[],by simp⟩⟩
  | read =>
    obtain ⟨v,h1,h2⟩:=opT_read hc h
    have:=h2 env [] (fun v h'=>k v h'∧(Cl.read ≠ .any→∃ l,h'=H++l)) (fun _ _=>rfl) (by rw [List.append_nil];exact ⟨h1,fun _=>⟨[],by simp⟩⟩)
    rwa [List.append_nil] at this
  | grow=>exact opT_mono (opT_grow hc h) fun v h' q=>⟨q.1,fun _=>q.2⟩
  | any=>exact opT_mono h fun v h' q=>⟨q,fun e=>absurd rfl e⟩

theorem yield_of {z : SOp} {env : Env} {H : Heap} {K : Env → Heap → Prop} (hc : clOf own z.op = .pure ∨ clOf own z.op = .read) (h : stepT P Γ own all z env H K) :
    ∃ v,K (updO env z.dst v) H∧∀ (env':Env) (H':Heap),(∀ t∈looks all z,env' t=env t)→(clOf own z.op=.read→∃ l,H'=H++l)→∀ K':Env→Heap→Prop,K' (updO env' z.dst v) H'→stepT P Γ own all z env' H' K':=by
  have run:∀ {k:V→Heap→Prop},opT P Γ own env H z.op k→∃ v,k v H∧∀ (env':Env) (H':Heap),(∀ t∈looks all z,env' t=env t)→(clOf own z.op=.read→∃ l,H'=H++l)→∀ k':V→Heap→Prop,k' v H'→opT P Γ own env' H' z.op k':=by
    intro k hk
    rcases hc with hc | hc
    · obtain ⟨v,h1,h2⟩:=opT_pure hc hk
      exact ⟨v,h1,fun env' H' he _ k' hk'=>h2 env' H' k' (looks_ev he) hk'⟩
    · obtain ⟨v,h1,h2⟩:=opT_read hc hk
      refine ⟨v,h1,fun env' H' he hl k' hk'=>?_⟩
      obtain ⟨l,rfl⟩:=hl hc
      exact h2 env' l k' (looks_ev he) hk'
  unfold stepT at h
  split at h
  · rename_i hg
    obtain ⟨v,h1,h2⟩:=run h
    exact ⟨v,h1,fun env' H' he hl K' hk'=>by unfold stepT;simp only [hg];exact h2 env' H' he hl _ hk'⟩
  · rename_i j want hg
    split at h
    · exact h.elim
    · rename_i t hs
      split at h
      · rename_i b hb
        by_cases e:b=want
        · obtain ⟨v,h1,h2⟩:=run (h.1 e)
          refine ⟨v,h1,fun env' H' he hl K' hk'=>?_⟩
          have:=looks_guard he hg hs
          unfold stepT
          simp only [hg,hs,this,hb]
          exact ⟨fun _=>h2 env' H' he hl _ hk',fun e'=>absurd e e'⟩
        · refine ⟨_,h.2 e,fun env' H' he hl K' hk'=>?_⟩
          have:=looks_guard he hg hs
          unfold stepT
          simp only [hg,hs,this,hb]
          exact ⟨fun e'=>absurd e' e,fun _=>hk'⟩
      · rename_i hb
        refine ⟨_,h,fun env' H' he hl K' hk'=>?_⟩
        have:=looks_guard he hg hs
        unfold stepT
        simp only [hg,hs,this,hb]
        exact hk'
      · exact h.elim

theorem step_move {y : SOp} {env env1 : Env} {H : Heap} {K : Env → Heap → Prop} (he : ∀ t ∈ looks all y, env t = env1 t) (h : stepT P Γ own all y env1 H K) :
    stepT P Γ own all y env H fun e h=>∃ u,e=updO env y.dst u∧K (updO env1 y.dst u) h∧(clOf own y.op ≠ .any→∃ l,h=H++l):=by
  unfold stepT at h ⊢
  split at h
  · have h':=opT_effect h
    rw [← opT_env (env':=env) (looks_ev he)] at h'
    exact opT_mono h' fun v h' q=>⟨v,rfl,q.1,q.2⟩
  · rename_i j want hg
    split at h
    · exact h.elim
    · rename_i t hs
      rw [looks_guard he hg hs]
      split at h
      · refine ⟨fun e=>?_,fun e=>⟨_,rfl,h.2 e,fun _=>⟨[],by simp⟩⟩⟩
        have h':=opT_effect (h.1 e)
        rw [← opT_env (env':=env) (looks_ev he)] at h'
        exact opT_mono h' fun v h' q=>⟨v,rfl,q.1,q.2⟩
      · exact ⟨_,rfl,h,fun _=>⟨[],by simp⟩⟩
      · exact h.elim

theorem updO_ne {env:Env} {d:Option Nat} {v:V} {t:Nat} (h:d ≠ some t):updO env d v t=env t:=by
  cases d with
  | none=>rfl
  | some d =>
    have:t ≠ d:=fun e=>h (by rw [e])
    simp [updO,upd,this]
theorem updO_comm {env:Env} {d d':Option Nat} {v v':V} (h:∀ x,d=some x→d' ≠ some x):updO (updO env d v) d' v'=updO (updO env d' v') d v:=by
  cases d with
  | none=>rfl
  | some d =>
    cases d' with
    | none=>rfl
    | some d' =>
      have:d' ≠ d:=fun e=>h d rfl (by rw [e])
      funext t
      simp only [updO,upd]
      by_cases h1:t=d <;> by_cases h2:t=d' <;> simp_all

theorem swapT {z y:SOp} (hi:indepB own all z y=true) {env:Env} {H:Heap} {K:Env→Heap→Prop} (h:stepT P Γ own all z env H fun e h=>stepT P Γ own all y e h K) :
    stepT P Γ own all y env H fun e h=>stepT P Γ own all z e h K:=by
  simp only [indepB,apartB,Bool.and_eq_true] at hi
  obtain ⟨⟨a1,a2⟩,a3⟩:=hi
  have hz:clOf own z.op=.pure∨clOf own z.op=.read:=by
    split at a3
    · exact .inl (by assumption)
    · exact .inr (by assumption)
    · cases a3
  have hy:clOf own z.op=.read→clOf own y.op ≠ .any:=by
    intro hr
    rw [hr] at a3
    simp only [] at a3
    split at a3
    · cases a3
    · rename_i hn;exact hn
  obtain ⟨v,h1,h2⟩:=yield_of hz h
  have d1:∀ t∈looks all y,z.dst ≠ some t:=by
    intro t ht e
    rw [e] at a1
    simp at a1
    exact a1.1 ht
  have d2:∀ x,z.dst=some x→y.dst ≠ some x:=by
    intro x e
    rw [e] at a1
    simp at a1
    exact a1.2
  have d3:∀ t∈looks all z,y.dst ≠ some t:=by
    intro t ht e
    rw [e] at a2
    simp at a2
    exact a2 ht
  refine stepT_mono (step_move (env:=env) (fun t ht=>(updO_ne (d1 t ht)).symm) h1) ?_
  rintro e h' ⟨u,rfl,hk,hl⟩
  refine h2 _ _ (fun t ht=>updO_ne (d3 t ht)) (fun hr=>hl (hy hr)) _ ?_
  rw [← updO_comm d2]
  exact hk

theorem bubble {y:SOp} {l2:List SOp} {k:Env→Heap→Prop}:∀ (l1:List SOp),(∀ z∈l1,indepB own all z y=true)→∀ (env:Env) (H:Heap),opsT P Γ own all (l1++y :: l2) env H k →
    stepT P Γ own all y env H fun e h=>opsT P Γ own all (l1++l2) e h k
  | [],_,env,H,h=>h
  | z :: l1,hz,env,H,h=>by
    refine swapT (hz z List.mem_cons_self) ?_
    exact stepT_mono h fun e h' q=>bubble l1 (fun z hm=>hz z (List.mem_cons_of_mem _ hm)) e h' q
end

def sop (ops:Array Oper) (j:Nat):SOp:=match ops[j]? with | some o=>⟨o.dst,o.op,o.guard⟩ | none=>⟨none,.ready 0,none⟩
def reachB (ops:Array Oper):Nat→Nat→Nat→Bool
  | 0,_,_=>false
  | n + 1,y,z=>match ops[y]? with
    | none=>false
    | some o=>o.after.toList.any fun e=>Region.binds .any e && (e.on == z || reachB ops n e.on z)
def pairsOk (own:List FuncId) (ops:Array Oper) (all:List (Option Nat)):List Nat→Bool
  | []=>true
  | z :: l=>(l.all fun y=>indepB own all (sop ops z) (sop ops y) || reachB ops 5 y z) && pairsOk own ops all l
def edgesOk (ops:List Oper):Nat→Bool
  | n=>match ops with
    | []=>true
    | o :: l=>(o.after.toList.all fun e=>!Region.binds .any e || decide (e.on < n)) && edgesOk l (n + 1)
def ordOk (own:List FuncId) (ops:Array Oper) (ord:List Nat):Bool :=
  edgesOk ops.toList 0 && decide ord.Nodup && (List.range ops.size).all (fun j=>ord.contains j) && ord.all (fun j=>decide (j < ops.size)) && pairsOk own ops (ops.toList.map (·.dst)) ord

section
variable {P:Program} {Γ:Table} {own:List FuncId} {x:Ctx} {N:Nat}

theorem edges_spec:∀ (l:List Oper) (n:Nat),edgesOk l n=true→∀ (i:Nat) (o:Oper),l[i]? = some o→∀ e∈o.after.toList,Region.binds .any e=true→e.on < n + i
  | [],n,_,i,o,h=>by simp at h
  | o :: l,n,hk,0,o',h=>by
    simp only [edgesOk,Bool.and_eq_true,List.all_eq_true,decide_eq_true_eq,Bool.or_eq_true,Bool.not_eq_true'] at hk
    simp at h
    subst h
    exact fun e he hb=>(hk.1 e he).resolve_left (by rw [hb];decide)
  | o :: l,n,hk,i + 1,o',h=>by
    simp only [edgesOk,Bool.and_eq_true] at hk
    have:=edges_spec l (n + 1) hk.2 i o' (by simpa using h)
    exact fun e he hb=>by have:=this e he hb;omega

theorem reach_spec {ops:Array Oper} {l:List Nat} (hd:∀ (j:Nat) (o:Oper),ops[j]? = some o→j ∉ l→∀ e∈o.after,Region.binds .any e=true→e.on ∉ l) {z:Nat}:∀ (n y:Nat),reachB ops n y z=true →
    (∀ o,ops[y]? = some o→∀ e∈o.after,Region.binds .any e=true→e.on ∉ l)→z ∉ l
  | 0,y,h,_=>by simp [reachB] at h
  | n + 1, y, h, hy => by
    simp only [reachB] at h
    split at h
    · cases h
    · rename_i o ho
      simp only [List.any_eq_true,Bool.and_eq_true,Bool.or_eq_true,beq_iff_eq] at h
      obtain ⟨e,he,hb,h⟩:=h
      have hn:=hy o ho e (by simpa using he) hb
      rcases h with h | h
      · rw [← h];exact hn
      · exact reach_spec hd n e.on h fun o' ho'=>hd e.on o' ho' hn

theorem opT_wp {o:Oper} {env:Env} {H:Heap} {φ:List (Nat × Nat)} {a:Act} {w:World} {k:V→Heap→Prop} {next:Act→World→Prop} {Q:Exit→Act→World→Prop} (hΓ:Good P Γ) (h:Sim x N ⟨env,H⟩ φ a w)
    (hk:opT P Γ own env H o.op k) (hn:Nexts P x N env a o k next):o.wp P a w next Q:=by
  by_cases hg:∃ c,o.op=.call c∧growCallee own c.callee=true
  · obtain ⟨c,e,hg⟩:=hg
    rw [e] at hk
    simp only [opT,hg,if_true] at hk
    unfold callG at hk
    split at hk
    · rename_i g hcal
      obtain ⟨r,R,hc,hk⟩:=hk
      obtain ⟨dst,op,type,pos,after,guard⟩:=o
      simp only [] at e
      subst e
      obtain ⟨callee,args,argTypes⟩:=c
      simp only [] at hcal
      subst hcal
      have hargs:VSs w (owned x.X φ H) φ (args.toList.map (ev env)) (args.map a.eval).toList:=by simpa using evs_spec h args.toList
      refine call_wp (args:=args.map a.eval) h ?_ hargs (hc.mono fun r' H' ⟨e1,e2⟩=>by rw [e1,e2];exact hk) hn
      simp [execOp,resolve,Deferred.ofValue,Act.eval,invoke]
      exact run_callFunc hc.1 _
    · exact hk.elim
  · exact op_wp hΓ h (opT_opD (fun c e=>by cases hq:growCallee own c.callee with | false=>rfl | true=>exact absurd ⟨c,e,hq⟩ hg) hk) hn
theorem stepT_wp (hΓ : Good P Γ) {all : Array Oper} {i : Nat} {o : Oper} (ho : all[i]? = some o) (hdst : opOk N o = true) {env : Env} {H : Heap} {φ : List (Nat × Nat)} {a : Act} {w : World} {K : Env → Heap → Prop}
    {Q:Exit→Act→World→Prop} {nxt:Act→World→Prop} (h:Sim x N ⟨env,H⟩ φ a w) (hk:stepT P Γ own (all.toList.map (·.dst)) (sop all i) env H K)
    (next:∀ env H φ a w,K env H→Sim x N ⟨env,H⟩ φ a w→nxt a w):wpOp P all Q i nxt a w:=by
  have run_:opT P Γ own env H o.op (fun v H'=>K (updO env o.dst v) H')→o.wp P a w nxt Q:=fun hk =>
    opT_wp hΓ h hk fun v c H' φ' w' hk' hs hv=>next _ _ _ _ _ hk' (hs.putO hdst hv)
  have skip_:K (updO env o.dst (.tup [])) H→nxt (a.put o.dst Go.undef) w:=fun hk =>
    next _ _ _ _ _ hk (h.putO hdst (by simp [VS,VSs,Go.undef]))
  unfold wpOp
  simp only [ho]
  simp only [sop,ho,stepT] at hk
  cases hg:o.guard with
  | none =>
    simp only [hg] at hk
    have hw:Region.wanted o (yielded all a.tmps)=true:=by simp [Region.wanted,hg]
    rw [if_pos hw]
    exact .inl (run_ hk)
  | some jw =>
    obtain ⟨j,want⟩:=jw
    simp only [hg] at hk
    cases hs:slotOf (all.toList.map (·.dst)) j with
    | none=>simp only [hs] at hk
    | some t =>
      simp only [hs] at hk
      have hy:yielded all a.tmps j=match a.tmps[t]? with | some (.bool b)=>some b | _=>none:=by
        have hs':(all[j]?).bind (·.dst)=some t:=by
          unfold slotOf at hs
          rw [List.getElem?_map,Array.getElem?_toList] at hs
          cases hq:all[j]? with
          | none=>rw [hq] at hs;simp at hs
          | some o=>rw [hq] at hs;simpa using hs
        unfold yielded
        rw [hs']
        rfl
      split at hk
      · rename_i b he
        have hb:=slot_bool h he
        have hw:Region.wanted o (yielded all a.tmps)=(b == want):=by simp [Region.wanted,hg,hy,hb]
        by_cases hbw:b=want
        · rw [if_pos (by rw [hw];simpa using hbw)]
          exact .inl (run_ (hk.1 hbw))
        · rw [if_neg (by rw [hw];simpa using hbw)]
          exact skip_ (hk.2 hbw)
      · rename_i he
        have hw:Region.wanted o (yielded all a.tmps)=false:=by
          rcases slot_tup h he with hb | hb <;> simp [Region.wanted,hg,hy,hb]
        rw [if_neg (by rw [hw];simp)]
        exact skip_ hk
      · exact hk.elim

theorem least : ∀ (l : List Nat), l ≠ [] → ∃ m ∈ l, ∀ j ∈ l, m ≤ j
  | [a],_=>⟨a,by simp,by simp⟩
  | a :: b :: l,_=>by
    obtain ⟨m,h1,h2⟩:=least (b :: l) (by simp)
    by_cases h:a≤m
    · exact ⟨a,by simp,fun j hj=>by
        rcases List.mem_cons.1 hj with rfl | hj
        · exact Nat.le_refl _
        · exact Nat.le_trans h (h2 j hj)⟩
    · exact ⟨m,List.mem_cons_of_mem _ h1,fun j hj=>by
        rcases List.mem_cons.1 hj with rfl | hj
        · omega
        · exact h2 j hj⟩

theorem opsT_any (hΓ : Good P Γ) {ops : Array Oper} (hok : ∀ (i : Nat) (o : Oper), ops[i]? = some o → opOk N o = true) (hedge : ∀ (i : Nat) (o : Oper), ops[i]? = some o → ∀ e ∈ o.after, Region.binds .any e = true → e.on < i) {k : Env → Heap → Prop} {Q : Exit → Act → World → Prop}
    (hq:∀ env H φ a w,k env H→Sim x N ⟨env,H⟩ φ a w→Q .normal a w) :
    ∀ (fuel:Nat) (l:List Nat) (listed:Array Bool) (env:Env) (H:Heap) (φ:List (Nat × Nat)) (a:Act) (w:World),l.length≤fuel→l.Nodup→listed.size=ops.size→(∀ j,j∈l→j < ops.size) →
      (∀ j,j < ops.size→(listed.getD j true=false ↔ j∈l))→(∀ (j:Nat) (o:Oper),ops[j]? = some o→j ∉ l→∀ e∈o.after,Region.binds .any e=true→e.on ∉ l) →
      l.Pairwise (fun z y=>indepB own (ops.toList.map (·.dst)) (sop ops z) (sop ops y)=true∨reachB ops 5 y z=true) →
      opsT P Γ own (ops.toList.map (·.dst)) (l.map (sop ops)) env H k→Sim x N ⟨env,H⟩ φ a w→wpAny P .any ops Q fuel listed a w:=by
  intro fuel
  induction fuel with
  | zero =>
    intro l listed env H φ a w hlen _ hsz hlt hiff _ _ h hs
    obtain rfl:l=[]:=List.eq_nil_of_length_eq_zero (by omega)
    refine ⟨?_,hq _ _ _ _ _ h hs⟩
    cases hr:Region.ready .any ops listed with
    | nil=>rfl
    | cons i rs =>
      have hi:i∈Region.ready .any ops listed:=by rw [hr];simp
      obtain ⟨h0,o,ho,_⟩:=mem_ready.1 hi
      have:=(hiff i (Array.getElem?_eq_some_iff.1 ho).1).1 h0
      simp at this
  | succ fuel ih =>
    intro l listed env H φ a w hlen hnd hsz hlt hiff hdown hpair h hs
    have notin:∀ j,listed.getD j false=true→j ∉ l:=by
      intro j hj hm
      have h1:=hlt j hm
      have h2:=(hiff j h1).2 hm
      have h3:j < listed.size:=by omega
      simp [h3] at hj h2
      rw [h2] at hj
      cases hj
    refine ⟨fun hr=>?_,fun i hi=>?_⟩
    · cases l with
      | nil=>exact hq _ _ _ _ _ h hs
      | cons z l =>
        exfalso
        obtain ⟨m,hm,hmin⟩:=least (z :: l) (by simp)
        have hml:=hlt m hm
        have:m∈Region.ready .any ops listed:=by
          refine mem_ready.2 ⟨(hiff m hml).2 hm,ops[m],Array.getElem?_eq_getElem hml,fun e he hbb=>?_⟩
          have h1:=hedge m _ (Array.getElem?_eq_getElem hml) e he hbb
          have h2:e.on ∉ z :: l:=fun hx=>by have:=hmin _ hx;omega
          have h3:listed.getD e.on true ≠ false:=fun hx=>h2 ((hiff e.on (by omega)).1 hx)
          have h4:e.on < listed.size:=by omega
          simp [h4] at h3 ⊢
          exact h3
        rw [hr] at this
        cases this
    · obtain ⟨h0,o,ho,hall⟩:=mem_ready.1 hi
      have hil:i < ops.size:=(Array.getElem?_eq_some_iff.1 ho).1
      have him:i∈l:=(hiff i hil).1 h0
      obtain ⟨l1,l2,rfl⟩:=List.append_of_mem him
      have hready:∀ o',ops[i]? = some o'→∀ e∈o'.after,Region.binds .any e=true→e.on ∉ l1++i :: l2:=by
        intro o' ho' e he hb
        rw [ho] at ho'
        cases ho'
        exact notin _ (hall e he hb)
      have hz:∀ z∈l1,indepB own (ops.toList.map (·.dst)) (sop ops z) (sop ops i)=true:=by
        intro z hz
        have:=(List.pairwise_append.1 hpair).2.2 z hz i (by simp)
        rcases this with h | h
        · exact h
        · exact absurd (List.mem_append_left _ hz) (reach_spec hdown 5 i h hready)
      rw [List.map_append,List.map_cons] at h
      have hb:=bubble (l1.map (sop ops)) (by simpa using hz) env H h
      refine stepT_wp hΓ ho (hok i o ho) hs hb ?_
      intro env' H' φ' a' w' hk hs'
      have hi1:i ∉ l1++l2:=by
        have:=hnd
        rw [List.nodup_append] at this
        obtain ⟨_,h2,h3⟩:=this
        rw [List.nodup_cons] at h2
        intro hx
        rcases List.mem_append.1 hx with hx | hx
        · exact h3 i hx i (by simp) rfl
        · exact h2.1 hx
      have hsub:(l1++l2).Sublist (l1++i :: l2):=List.Sublist.append (List.Sublist.refl _) (List.sublist_cons_self _ _)
      refine ih (l1++l2) (listed.setIfInBounds i true) env' H' φ' a' w' (by simp at hlen ⊢;omega) (hnd.sublist hsub) (by simpa using hsz) (fun j hj=>hlt j (hsub.subset hj)) ?_ ?_ (hpair.sublist hsub) (by rw [List.map_append];exact hk) hs'
      · intro j hj
        by_cases hji:i=j
        · subst hji
          have:i < listed.size:=by omega
          simp [this]
          simpa using hi1
        · rw [getD_set_ne true hji,hiff j hj]
          simp only [List.mem_append,List.mem_cons]
          constructor
          · rintro (h | h | h)
            · exact .inl h
            · exact absurd h.symm hji
            · exact .inr h
          · rintro (h | h)
            · exact .inl h
            · exact .inr (.inr h)
      · intro j o' ho' hj e he hbb hx
        have hx':=hsub.subset hx
        by_cases hji:j=i
        · subst hji
          exact hready o' ho' e he hbb hx'
        · refine hdown j o' ho' ?_ e he hbb hx'
          intro hm
          apply hj
          simp only [List.mem_append,List.mem_cons] at hm ⊢
          rcases hm with h | h | h
          · exact .inl h
          · exact absurd h hji
          · exact .inr h

theorem pairs_spec {ops:Array Oper} {all:List (Option Nat)}:∀ (l:List Nat),pairsOk own ops all l=true→l.Pairwise (fun z y=>indepB own all (sop ops z) (sop ops y)=true∨reachB ops 5 y z=true)
  | [],_=>.nil
  | z :: l,h=>by
    simp only [pairsOk,Bool.and_eq_true,List.all_eq_true,Bool.or_eq_true] at h
    exact .cons (fun y hy=>h.1 y hy) (pairs_spec l h.2)

theorem W_draw (hm:P.follows .mixedOrders=true) (hΓ:Good P Γ) (K:List Nat) (own:List FuncId) (ord:List Nat) {n0 id:Nat} {ops:Array Oper} {Q:Exit→St→Prop} {s:St} (hok:ops.toList.all (opOk N)=true) (ho:ordOk own ops ord=true)
    (h:opsT P Γ own (ops.toList.map (·.dst)) (ord.map (sop ops)) s.env s.H fun env H=>Q .normal ⟨keep K env,H⟩):W P N n0 (.region id ops true) Q s:=by
  simp only [ordOk,Bool.and_eq_true,List.all_eq_true,decide_eq_true_eq] at ho
  obtain ⟨⟨⟨⟨o1,o2⟩,o3⟩,o4⟩,o5⟩:=ho
  have hok':∀ (i:Nat) (o:Oper),ops[i]? = some o→opOk N o=true:=by
    intro i o hi
    simp only [List.all_eq_true] at hok
    exact hok o (by simpa using Array.mem_of_getElem? hi)
  intro x φ a w hx hs
  refine wp_region_any hm ?_
  have hs':=hs.drawn (w.drawn + 1)
  refine opsT_any (x:=x) (own:=own) hΓ hok' ?_ (k:=fun env H=>Q .normal ⟨keep K env,H⟩) ?_ ops.size ord _ s.env s.H φ a _ ?_ o2 (by simp) (fun j hj=>o4 j hj) ?_ ?_ (pairs_spec ord o5) h hs'
  · intro i o hi e he hbb
    have:=edges_spec ops.toList 0 o1 i o (by simpa using hi) e (by simpa using he) hbb
    omega
  · intro env H φ a w hk hs''
    exact ⟨_,φ,hk,hs''.keep K⟩
  · have:=List.Nodup.length_le_of_subset o2 (l₂:=List.range ops.size) fun j hj=>by simpa using o4 j hj
    simpa using this
  · intro j hj
    have:=o3 j (by simpa using hj)
    simp only [List.contains_iff_mem] at this
    simp [hj,this]
  · intro j o hj hn
    have hlt:=(Array.getElem?_eq_some_iff.1 hj).1
    have:=o3 j (by simpa using hlt)
    simp only [List.contains_iff_mem] at this
    exact absurd this hn
end

end Go.Proofs.YtcgekblpbheikaaGreatDoor
end
