-- WEqStruct (what this claim uses of them)
import Derived.Test.YtehgfpfmpkmdmaaDoorYv0
import Derived.Laws.StructEq
