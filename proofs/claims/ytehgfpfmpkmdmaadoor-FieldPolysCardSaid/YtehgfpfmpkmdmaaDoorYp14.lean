-- WEqStruct (what this claim uses of them)
import Derived.Test.YtehgfpfmpkmdmaaDoorYp0
import Derived.Laws.StructEq
